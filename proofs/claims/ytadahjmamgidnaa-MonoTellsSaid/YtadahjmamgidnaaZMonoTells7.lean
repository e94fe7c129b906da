/- Parts of the proof of MonoTells: the logic, contracts, plain laws. -/
import Derived.Test.YtadahjmamgidnaaZMonoTells6
import Derived.Test.YtadahjmamgidnaaProg
/-! What the logic wants to know of the types. -/
namespace Go.AL
open Go.Proofs
@[simp] theorem ts2 : tsize Try.prog 2 = some (1, false) := by kernel_rfl
@[simp] theorem tk2 : tkind Try.prog 2 = 0 := by kernel_rfl
@[simp] theorem ti2 : isIface Try.prog 2 = false := by kernel_rfl
@[simp] theorem tl2 : tleaf Try.prog 2 = 2 := by kernel_rfl
@[simp] theorem tu2 : Try.prog.underlying 2 = some (.int .i64) := by kernel_rfl
@[simp] theorem tstn2 : isString Try.prog 2 = false := by kernel_rfl
@[simp] theorem tbyn2 : isBytes Try.prog 2 = false := by kernel_rfl
@[simp] theorem tz2 : tzero Try.prog 2 = some (.p (.int .i64 0)) := by kernel_rfl
@[simp] theorem ts3 : tsize Try.prog 3 = some (1, false) := by kernel_rfl
@[simp] theorem tk3 : tkind Try.prog 3 = 0 := by kernel_rfl
@[simp] theorem ti3 : isIface Try.prog 3 = false := by kernel_rfl
@[simp] theorem tl3 : tleaf Try.prog 3 = 2 := by kernel_rfl
@[simp] theorem tu3 : Try.prog.underlying 3 = some (.int .i64) := by kernel_rfl
@[simp] theorem tstn3 : isString Try.prog 3 = false := by kernel_rfl
@[simp] theorem tbyn3 : isBytes Try.prog 3 = false := by kernel_rfl
@[simp] theorem tz3 : tzero Try.prog 3 = some (.p (.int .i64 0)) := by kernel_rfl
@[simp] theorem ts4 : tsize Try.prog 4 = some (1, false) := by kernel_rfl
@[simp] theorem tk4 : tkind Try.prog 4 = 1 := by kernel_rfl
@[simp] theorem ti4 : isIface Try.prog 4 = false := by kernel_rfl
@[simp] theorem tl4 : tleaf Try.prog 4 = 1 := by kernel_rfl
@[simp] theorem tu4 : Try.prog.underlying 4 = some .bool := by kernel_rfl
@[simp] theorem tstn4 : isString Try.prog 4 = false := by kernel_rfl
@[simp] theorem tbyn4 : isBytes Try.prog 4 = false := by kernel_rfl
@[simp] theorem tz4 : tzero Try.prog 4 = some (.p (.bool false)) := by kernel_rfl
@[simp] theorem ts5 : tsize Try.prog 5 = some (1, false) := by kernel_rfl
@[simp] theorem tk5 : tkind Try.prog 5 = 0 := by kernel_rfl
@[simp] theorem ti5 : isIface Try.prog 5 = false := by kernel_rfl
@[simp] theorem tl5 : tleaf Try.prog 5 = 2 := by kernel_rfl
@[simp] theorem tu5 : Try.prog.underlying 5 = some (.int .u8) := by kernel_rfl
@[simp] theorem tstn5 : isString Try.prog 5 = false := by kernel_rfl
@[simp] theorem tbyn5 : isBytes Try.prog 5 = false := by kernel_rfl
@[simp] theorem tz5 : tzero Try.prog 5 = some (.p (.int .u8 0)) := by kernel_rfl
@[simp] theorem ts9 : tsize Try.prog 9 = some (1, false) := by kernel_rfl
@[simp] theorem tk9 : tkind Try.prog 9 = 0 := by kernel_rfl
@[simp] theorem ti9 : isIface Try.prog 9 = false := by kernel_rfl
@[simp] theorem tl9 : tleaf Try.prog 9 = 3 := by kernel_rfl
@[simp] theorem tstr9 : isString Try.prog 9 = true := by kernel_rfl
@[simp] theorem tu9 : Try.prog.underlying 9 = some .string := by kernel_rfl
@[simp] theorem tbyn9 : isBytes Try.prog 9 = false := by kernel_rfl
@[simp] theorem tz9 : tzero Try.prog 9 = some (.p (.string ⟨#[]⟩)) := by kernel_rfl
@[simp] theorem ts12 : tsize Try.prog 12 = some (1, false) := by kernel_rfl
@[simp] theorem tk12 : tkind Try.prog 12 = 0 := by kernel_rfl
@[simp] theorem ti12 : isIface Try.prog 12 = false := by kernel_rfl
@[simp] theorem tl12 : tleaf Try.prog 12 = 2 := by kernel_rfl
@[simp] theorem tu12 : Try.prog.underlying 12 = some (.int .u64) := by kernel_rfl
@[simp] theorem tstn12 : isString Try.prog 12 = false := by kernel_rfl
@[simp] theorem tbyn12 : isBytes Try.prog 12 = false := by kernel_rfl
@[simp] theorem tz12 : tzero Try.prog 12 = some (.p (.int .u64 0)) := by kernel_rfl
@[simp] theorem ts13 : tsize Try.prog 13 = some (2, true) := by kernel_rfl
@[simp] theorem tk13 : tkind Try.prog 13 = 0 := by kernel_rfl
@[simp] theorem ti13 : isIface Try.prog 13 = false := by kernel_rfl
@[simp] theorem tstn13 : isString Try.prog 13 = false := by kernel_rfl
@[simp] theorem tbyn13 : isBytes Try.prog 13 = false := by kernel_rfl
@[simp] theorem tf13_0 : tfield Try.prog 13 0 = some (0, 1, false) := by kernel_rfl
@[simp] theorem tf13_1 : tfield Try.prog 13 1 = some (1, 1, false) := by kernel_rfl
@[simp] theorem tp13 : tplaces Try.prog 13 = some [(0, 1), (1, 1)] := by kernel_rfl
@[simp] theorem tz13 : tzero Try.prog 13 = some (.agg [.p (.string ⟨#[]⟩), .p (.int .u64 0)]) := by kernel_rfl
@[simp] theorem ts20 : tsize Try.prog 20 = some (1, false) := by kernel_rfl
@[simp] theorem tk20 : tkind Try.prog 20 = 3 := by kernel_rfl
@[simp] theorem ti20 : isIface Try.prog 20 = true := by kernel_rfl
@[simp] theorem tstn20 : isString Try.prog 20 = false := by kernel_rfl
@[simp] theorem tbyn20 : isBytes Try.prog 20 = false := by kernel_rfl
@[simp] theorem tz20 : tzero Try.prog 20 = some (.p (.nilIface)) := by kernel_rfl
@[simp] theorem ts21 : tsize Try.prog 21 = some (1, false) := by kernel_rfl
@[simp] theorem tk21 : tkind Try.prog 21 = 0 := by kernel_rfl
@[simp] theorem ti21 : isIface Try.prog 21 = false := by kernel_rfl
@[simp] theorem tl21 : tleaf Try.prog 21 = 2 := by kernel_rfl
@[simp] theorem tu21 : Try.prog.underlying 21 = some (.int .i32) := by kernel_rfl
@[simp] theorem tstn21 : isString Try.prog 21 = false := by kernel_rfl
@[simp] theorem tbyn21 : isBytes Try.prog 21 = false := by kernel_rfl
@[simp] theorem tz21 : tzero Try.prog 21 = some (.p (.int .i32 0)) := by kernel_rfl
@[simp] theorem ts22 : tsize Try.prog 22 = some (1, false) := by kernel_rfl
@[simp] theorem tk22 : tkind Try.prog 22 = 0 := by kernel_rfl
@[simp] theorem ti22 : isIface Try.prog 22 = false := by kernel_rfl
@[simp] theorem tl22 : tleaf Try.prog 22 = 2 := by kernel_rfl
@[simp] theorem tu22 : Try.prog.underlying 22 = some (.int .i64) := by kernel_rfl
@[simp] theorem tstn22 : isString Try.prog 22 = false := by kernel_rfl
@[simp] theorem tbyn22 : isBytes Try.prog 22 = false := by kernel_rfl
@[simp] theorem tz22 : tzero Try.prog 22 = some (.p (.int .i64 0)) := by kernel_rfl
@[simp] theorem ts23 : tsize Try.prog 23 = some (2, true) := by kernel_rfl
@[simp] theorem tk23 : tkind Try.prog 23 = 0 := by kernel_rfl
@[simp] theorem ti23 : isIface Try.prog 23 = false := by kernel_rfl
@[simp] theorem tq23 : teqok Try.prog 23 = true := by kernel_rfl
@[simp] theorem tg23 : tflds Try.prog 23 = some [(3, 0), (3, 1)] := by kernel_rfl
@[simp] theorem tstn23 : isString Try.prog 23 = false := by kernel_rfl
@[simp] theorem tbyn23 : isBytes Try.prog 23 = false := by kernel_rfl
@[simp] theorem tf23_0 : tfield Try.prog 23 0 = some (0, 1, false) := by kernel_rfl
@[simp] theorem tf23_1 : tfield Try.prog 23 1 = some (1, 1, false) := by kernel_rfl
@[simp] theorem tp23 : tplaces Try.prog 23 = some [(0, 1), (1, 1)] := by kernel_rfl
@[simp] theorem tz23 : tzero Try.prog 23 = some (.agg [.p (.int .i64 0), .p (.int .i64 0)]) := by kernel_rfl
@[simp] theorem ts24 : tsize Try.prog 24 = some (2, true) := by kernel_rfl
@[simp] theorem tk24 : tkind Try.prog 24 = 0 := by kernel_rfl
@[simp] theorem ti24 : isIface Try.prog 24 = false := by kernel_rfl
@[simp] theorem tq24 : teqok Try.prog 24 = true := by kernel_rfl
@[simp] theorem tg24 : tflds Try.prog 24 = some [(3, 0), (3, 1)] := by kernel_rfl
@[simp] theorem tstn24 : isString Try.prog 24 = false := by kernel_rfl
@[simp] theorem tbyn24 : isBytes Try.prog 24 = false := by kernel_rfl
@[simp] theorem tf24_0 : tfield Try.prog 24 0 = some (0, 1, false) := by kernel_rfl
@[simp] theorem tf24_1 : tfield Try.prog 24 1 = some (1, 1, false) := by kernel_rfl
@[simp] theorem tp24 : tplaces Try.prog 24 = some [(0, 1), (1, 1)] := by kernel_rfl
@[simp] theorem tz24 : tzero Try.prog 24 = some (.agg [.p (.int .i64 0), .p (.int .i64 0)]) := by kernel_rfl
@[simp] theorem ts25 : tsize Try.prog 25 = some (4, true) := by kernel_rfl
@[simp] theorem tk25 : tkind Try.prog 25 = 0 := by kernel_rfl
@[simp] theorem ti25 : isIface Try.prog 25 = false := by kernel_rfl
@[simp] theorem tq25 : teqok Try.prog 25 = true := by kernel_rfl
@[simp] theorem tg25 : tflds Try.prog 25 = some [(24, 0), (24, 2)] := by kernel_rfl
@[simp] theorem tstn25 : isString Try.prog 25 = false := by kernel_rfl
@[simp] theorem tbyn25 : isBytes Try.prog 25 = false := by kernel_rfl
@[simp] theorem tf25_0 : tfield Try.prog 25 0 = some (0, 2, true) := by kernel_rfl
@[simp] theorem tf25_1 : tfield Try.prog 25 1 = some (2, 2, true) := by kernel_rfl
@[simp] theorem tp25 : tplaces Try.prog 25 = some [(0, 2), (2, 2)] := by kernel_rfl
@[simp] theorem tz25 : tzero Try.prog 25 = some (.agg [.p (.int .i64 0), .p (.int .i64 0), .p (.int .i64 0), .p (.int .i64 0)]) := by kernel_rfl
@[simp] theorem ts26 : tsize Try.prog 26 = some (4, true) := by kernel_rfl
@[simp] theorem tk26 : tkind Try.prog 26 = 0 := by kernel_rfl
@[simp] theorem ti26 : isIface Try.prog 26 = false := by kernel_rfl
@[simp] theorem tq26 : teqok Try.prog 26 = true := by kernel_rfl
@[simp] theorem tg26 : tflds Try.prog 26 = some [(24, 0), (24, 2)] := by kernel_rfl
@[simp] theorem tstn26 : isString Try.prog 26 = false := by kernel_rfl
@[simp] theorem tbyn26 : isBytes Try.prog 26 = false := by kernel_rfl
@[simp] theorem tf26_0 : tfield Try.prog 26 0 = some (0, 2, true) := by kernel_rfl
@[simp] theorem tf26_1 : tfield Try.prog 26 1 = some (2, 2, true) := by kernel_rfl
@[simp] theorem tp26 : tplaces Try.prog 26 = some [(0, 2), (2, 2)] := by kernel_rfl
@[simp] theorem tz26 : tzero Try.prog 26 = some (.agg [.p (.int .i64 0), .p (.int .i64 0), .p (.int .i64 0), .p (.int .i64 0)]) := by kernel_rfl
@[simp] theorem ts27 : tsize Try.prog 27 = some (1, false) := by kernel_rfl
@[simp] theorem tk27 : tkind Try.prog 27 = 4 := by kernel_rfl
@[simp] theorem ti27 : isIface Try.prog 27 = false := by kernel_rfl
@[simp] theorem tby27 : isBytes Try.prog 27 = false := by kernel_rfl
@[simp] theorem tstn27 : isString Try.prog 27 = false := by kernel_rfl
@[simp] theorem tsl27 : isSlice Try.prog 27 = true := by kernel_rfl
@[simp] theorem te27 : telem Try.prog 27 = some (8, true, 88) := by kernel_rfl
@[simp] theorem tet27 : telemT Try.prog 27 = some 29 := by kernel_rfl
@[simp] theorem tz27 : tzero Try.prog 27 = some (.p (.slice none 0 0)) := by kernel_rfl
@[simp] theorem ts28 : tsize Try.prog 28 = some (8, true) := by kernel_rfl
@[simp] theorem tk28 : tkind Try.prog 28 = 0 := by kernel_rfl
@[simp] theorem ti28 : isIface Try.prog 28 = false := by kernel_rfl
@[simp] theorem tstn28 : isString Try.prog 28 = false := by kernel_rfl
@[simp] theorem tbyn28 : isBytes Try.prog 28 = false := by kernel_rfl
@[simp] theorem tf28_0 : tfield Try.prog 28 0 = some (0, 1, false) := by kernel_rfl
@[simp] theorem tf28_1 : tfield Try.prog 28 1 = some (1, 1, false) := by kernel_rfl
@[simp] theorem tf28_2 : tfield Try.prog 28 2 = some (2, 4, true) := by kernel_rfl
@[simp] theorem tf28_3 : tfield Try.prog 28 3 = some (6, 1, false) := by kernel_rfl
@[simp] theorem tf28_4 : tfield Try.prog 28 4 = some (7, 1, false) := by kernel_rfl
@[simp] theorem tp28 : tplaces Try.prog 28 = some [(0, 1), (1, 1), (2, 4), (6, 1), (7, 1)] := by kernel_rfl
@[simp] theorem tz28 : tzero Try.prog 28 = some (.agg [.p (.int .i64 0), .p (.int .i64 0), .p (.int .i64 0), .p (.int .i64 0), .p (.int .i64 0), .p (.int .i64 0), .p (.string ⟨#[]⟩), .p (.slice none 0 0)]) := by kernel_rfl
@[simp] theorem ts29 : tsize Try.prog 29 = some (8, true) := by kernel_rfl
@[simp] theorem tk29 : tkind Try.prog 29 = 0 := by kernel_rfl
@[simp] theorem ti29 : isIface Try.prog 29 = false := by kernel_rfl
@[simp] theorem tstn29 : isString Try.prog 29 = false := by kernel_rfl
@[simp] theorem tbyn29 : isBytes Try.prog 29 = false := by kernel_rfl
@[simp] theorem tf29_0 : tfield Try.prog 29 0 = some (0, 1, false) := by kernel_rfl
@[simp] theorem tf29_1 : tfield Try.prog 29 1 = some (1, 1, false) := by kernel_rfl
@[simp] theorem tf29_2 : tfield Try.prog 29 2 = some (2, 4, true) := by kernel_rfl
@[simp] theorem tf29_3 : tfield Try.prog 29 3 = some (6, 1, false) := by kernel_rfl
@[simp] theorem tf29_4 : tfield Try.prog 29 4 = some (7, 1, false) := by kernel_rfl
@[simp] theorem tp29 : tplaces Try.prog 29 = some [(0, 1), (1, 1), (2, 4), (6, 1), (7, 1)] := by kernel_rfl
@[simp] theorem tz29 : tzero Try.prog 29 = some (.agg [.p (.int .i64 0), .p (.int .i64 0), .p (.int .i64 0), .p (.int .i64 0), .p (.int .i64 0), .p (.int .i64 0), .p (.string ⟨#[]⟩), .p (.slice none 0 0)]) := by kernel_rfl
@[simp] theorem ts32 : tsize Try.prog 32 = some (1, false) := by kernel_rfl
@[simp] theorem tk32 : tkind Try.prog 32 = 0 := by kernel_rfl
@[simp] theorem ti32 : isIface Try.prog 32 = false := by kernel_rfl
@[simp] theorem tl32 : tleaf Try.prog 32 = 2 := by kernel_rfl
@[simp] theorem tu32 : Try.prog.underlying 32 = some (.int .i64) := by kernel_rfl
@[simp] theorem tstn32 : isString Try.prog 32 = false := by kernel_rfl
@[simp] theorem tbyn32 : isBytes Try.prog 32 = false := by kernel_rfl
@[simp] theorem tz32 : tzero Try.prog 32 = some (.p (.int .i64 0)) := by kernel_rfl
@[simp] theorem ts37 : tsize Try.prog 37 = some (1, false) := by kernel_rfl
@[simp] theorem tk37 : tkind Try.prog 37 = 4 := by kernel_rfl
@[simp] theorem ti37 : isIface Try.prog 37 = false := by kernel_rfl
@[simp] theorem tby37 : isBytes Try.prog 37 = false := by kernel_rfl
@[simp] theorem tstn37 : isString Try.prog 37 = false := by kernel_rfl
@[simp] theorem tsl37 : isSlice Try.prog 37 = true := by kernel_rfl
@[simp] theorem te37 : telem Try.prog 37 = some (2, true, 16) := by kernel_rfl
@[simp] theorem tet37 : telemT Try.prog 37 = some 24 := by kernel_rfl
@[simp] theorem tz37 : tzero Try.prog 37 = some (.p (.slice none 0 0)) := by kernel_rfl
@[simp] theorem ts43 : tsize Try.prog 43 = some (1, false) := by kernel_rfl
@[simp] theorem tk43 : tkind Try.prog 43 = 4 := by kernel_rfl
@[simp] theorem ti43 : isIface Try.prog 43 = false := by kernel_rfl
@[simp] theorem tby43 : isBytes Try.prog 43 = false := by kernel_rfl
@[simp] theorem tstn43 : isString Try.prog 43 = false := by kernel_rfl
@[simp] theorem tsl43 : isSlice Try.prog 43 = true := by kernel_rfl
@[simp] theorem te43 : telem Try.prog 43 = some (3, true, 24) := by kernel_rfl
@[simp] theorem tet43 : telemT Try.prog 43 = some 48 := by kernel_rfl
@[simp] theorem tz43 : tzero Try.prog 43 = some (.p (.slice none 0 0)) := by kernel_rfl
@[simp] theorem ts44 : tsize Try.prog 44 = some (1, false) := by kernel_rfl
@[simp] theorem tk44 : tkind Try.prog 44 = 0 := by kernel_rfl
@[simp] theorem ti44 : isIface Try.prog 44 = false := by kernel_rfl
@[simp] theorem tl44 : tleaf Try.prog 44 = 2 := by kernel_rfl
@[simp] theorem tu44 : Try.prog.underlying 44 = some (.int .i64) := by kernel_rfl
@[simp] theorem tstn44 : isString Try.prog 44 = false := by kernel_rfl
@[simp] theorem tbyn44 : isBytes Try.prog 44 = false := by kernel_rfl
@[simp] theorem tz44 : tzero Try.prog 44 = some (.p (.int .i64 0)) := by kernel_rfl
@[simp] theorem ts45 : tsize Try.prog 45 = some (1, false) := by kernel_rfl
@[simp] theorem tk45 : tkind Try.prog 45 = 4 := by kernel_rfl
@[simp] theorem ti45 : isIface Try.prog 45 = false := by kernel_rfl
@[simp] theorem tby45 : isBytes Try.prog 45 = false := by kernel_rfl
@[simp] theorem tstn45 : isString Try.prog 45 = false := by kernel_rfl
@[simp] theorem tsl45 : isSlice Try.prog 45 = true := by kernel_rfl
@[simp] theorem te45 : telem Try.prog 45 = some (1, false, 8) := by kernel_rfl
@[simp] theorem tet45 : telemT Try.prog 45 = some 44 := by kernel_rfl
@[simp] theorem tz45 : tzero Try.prog 45 = some (.p (.slice none 0 0)) := by kernel_rfl
@[simp] theorem ts46 : tsize Try.prog 46 = some (1, false) := by kernel_rfl
@[simp] theorem tk46 : tkind Try.prog 46 = 4 := by kernel_rfl
@[simp] theorem ti46 : isIface Try.prog 46 = false := by kernel_rfl
@[simp] theorem tby46 : isBytes Try.prog 46 = false := by kernel_rfl
@[simp] theorem tstn46 : isString Try.prog 46 = false := by kernel_rfl
@[simp] theorem tsl46 : isSlice Try.prog 46 = true := by kernel_rfl
@[simp] theorem te46 : telem Try.prog 46 = some (1, false, 8) := by kernel_rfl
@[simp] theorem tet46 : telemT Try.prog 46 = some 3 := by kernel_rfl
@[simp] theorem tz46 : tzero Try.prog 46 = some (.p (.slice none 0 0)) := by kernel_rfl
@[simp] theorem ts47 : tsize Try.prog 47 = some (3, true) := by kernel_rfl
@[simp] theorem tk47 : tkind Try.prog 47 = 0 := by kernel_rfl
@[simp] theorem ti47 : isIface Try.prog 47 = false := by kernel_rfl
@[simp] theorem tq47 : teqok Try.prog 47 = true := by kernel_rfl
@[simp] theorem tg47 : tflds Try.prog 47 = some [(24, 0), (44, 2)] := by kernel_rfl
@[simp] theorem tstn47 : isString Try.prog 47 = false := by kernel_rfl
@[simp] theorem tbyn47 : isBytes Try.prog 47 = false := by kernel_rfl
@[simp] theorem tf47_0 : tfield Try.prog 47 0 = some (0, 2, true) := by kernel_rfl
@[simp] theorem tf47_1 : tfield Try.prog 47 1 = some (2, 1, false) := by kernel_rfl
@[simp] theorem tp47 : tplaces Try.prog 47 = some [(0, 2), (2, 1)] := by kernel_rfl
@[simp] theorem tz47 : tzero Try.prog 47 = some (.agg [.p (.int .i64 0), .p (.int .i64 0), .p (.int .i64 0)]) := by kernel_rfl
@[simp] theorem ts48 : tsize Try.prog 48 = some (3, true) := by kernel_rfl
@[simp] theorem tk48 : tkind Try.prog 48 = 0 := by kernel_rfl
@[simp] theorem ti48 : isIface Try.prog 48 = false := by kernel_rfl
@[simp] theorem tq48 : teqok Try.prog 48 = true := by kernel_rfl
@[simp] theorem tg48 : tflds Try.prog 48 = some [(24, 0), (44, 2)] := by kernel_rfl
@[simp] theorem tstn48 : isString Try.prog 48 = false := by kernel_rfl
@[simp] theorem tbyn48 : isBytes Try.prog 48 = false := by kernel_rfl
@[simp] theorem tf48_0 : tfield Try.prog 48 0 = some (0, 2, true) := by kernel_rfl
@[simp] theorem tf48_1 : tfield Try.prog 48 1 = some (2, 1, false) := by kernel_rfl
@[simp] theorem tp48 : tplaces Try.prog 48 = some [(0, 2), (2, 1)] := by kernel_rfl
@[simp] theorem tz48 : tzero Try.prog 48 = some (.agg [.p (.int .i64 0), .p (.int .i64 0), .p (.int .i64 0)]) := by kernel_rfl
@[simp] theorem ts51 : tsize Try.prog 51 = some (1, false) := by kernel_rfl
@[simp] theorem tk51 : tkind Try.prog 51 = 4 := by kernel_rfl
@[simp] theorem ti51 : isIface Try.prog 51 = false := by kernel_rfl
@[simp] theorem tby51 : isBytes Try.prog 51 = false := by kernel_rfl
@[simp] theorem tstn51 : isString Try.prog 51 = false := by kernel_rfl
@[simp] theorem tsl51 : isSlice Try.prog 51 = true := by kernel_rfl
@[simp] theorem te51 : telem Try.prog 51 = some (3, true, 24) := by kernel_rfl
@[simp] theorem tet51 : telemT Try.prog 51 = some 93 := by kernel_rfl
@[simp] theorem tz51 : tzero Try.prog 51 = some (.p (.slice none 0 0)) := by kernel_rfl
@[simp] theorem ts58 : tsize Try.prog 58 = some (1, false) := by kernel_rfl
@[simp] theorem tk58 : tkind Try.prog 58 = 4 := by kernel_rfl
@[simp] theorem ti58 : isIface Try.prog 58 = false := by kernel_rfl
@[simp] theorem tby58 : isBytes Try.prog 58 = false := by kernel_rfl
@[simp] theorem tstn58 : isString Try.prog 58 = false := by kernel_rfl
@[simp] theorem tsl58 : isSlice Try.prog 58 = true := by kernel_rfl
@[simp] theorem te58 : telem Try.prog 58 = some (5, true, 40) := by kernel_rfl
@[simp] theorem tet58 : telemT Try.prog 58 = some 98 := by kernel_rfl
@[simp] theorem tz58 : tzero Try.prog 58 = some (.p (.slice none 0 0)) := by kernel_rfl
@[simp] theorem ts59 : tsize Try.prog 59 = some (1, false) := by kernel_rfl
@[simp] theorem tk59 : tkind Try.prog 59 = 4 := by kernel_rfl
@[simp] theorem ti59 : isIface Try.prog 59 = false := by kernel_rfl
@[simp] theorem tby59 : isBytes Try.prog 59 = false := by kernel_rfl
@[simp] theorem tstn59 : isString Try.prog 59 = false := by kernel_rfl
@[simp] theorem tsl59 : isSlice Try.prog 59 = true := by kernel_rfl
@[simp] theorem te59 : telem Try.prog 59 = some (4, true, 32) := by kernel_rfl
@[simp] theorem tet59 : telemT Try.prog 59 = some 69 := by kernel_rfl
@[simp] theorem tz59 : tzero Try.prog 59 = some (.p (.slice none 0 0)) := by kernel_rfl
@[simp] theorem ts62 : tsize Try.prog 62 = some (1, false) := by kernel_rfl
@[simp] theorem tk62 : tkind Try.prog 62 = 0 := by kernel_rfl
@[simp] theorem ti62 : isIface Try.prog 62 = false := by kernel_rfl
@[simp] theorem tl62 : tleaf Try.prog 62 = 2 := by kernel_rfl
@[simp] theorem tu62 : Try.prog.underlying 62 = some (.int .i64) := by kernel_rfl
@[simp] theorem tstn62 : isString Try.prog 62 = false := by kernel_rfl
@[simp] theorem tbyn62 : isBytes Try.prog 62 = false := by kernel_rfl
@[simp] theorem tz62 : tzero Try.prog 62 = some (.p (.int .i64 0)) := by kernel_rfl
@[simp] theorem ts63 : tsize Try.prog 63 = some (2, true) := by kernel_rfl
@[simp] theorem tk63 : tkind Try.prog 63 = 0 := by kernel_rfl
@[simp] theorem ti63 : isIface Try.prog 63 = false := by kernel_rfl
@[simp] theorem tq63 : teqok Try.prog 63 = true := by kernel_rfl
@[simp] theorem tg63 : tflds Try.prog 63 = some [(3, 0), (62, 1)] := by kernel_rfl
@[simp] theorem tstn63 : isString Try.prog 63 = false := by kernel_rfl
@[simp] theorem tbyn63 : isBytes Try.prog 63 = false := by kernel_rfl
@[simp] theorem tf63_0 : tfield Try.prog 63 0 = some (0, 1, false) := by kernel_rfl
@[simp] theorem tf63_1 : tfield Try.prog 63 1 = some (1, 1, false) := by kernel_rfl
@[simp] theorem tp63 : tplaces Try.prog 63 = some [(0, 1), (1, 1)] := by kernel_rfl
@[simp] theorem tz63 : tzero Try.prog 63 = some (.agg [.p (.int .i64 0), .p (.int .i64 0)]) := by kernel_rfl
@[simp] theorem ts64 : tsize Try.prog 64 = some (2, true) := by kernel_rfl
@[simp] theorem tk64 : tkind Try.prog 64 = 0 := by kernel_rfl
@[simp] theorem ti64 : isIface Try.prog 64 = false := by kernel_rfl
@[simp] theorem tq64 : teqok Try.prog 64 = true := by kernel_rfl
@[simp] theorem tg64 : tflds Try.prog 64 = some [(3, 0), (62, 1)] := by kernel_rfl
@[simp] theorem tstn64 : isString Try.prog 64 = false := by kernel_rfl
@[simp] theorem tbyn64 : isBytes Try.prog 64 = false := by kernel_rfl
@[simp] theorem tf64_0 : tfield Try.prog 64 0 = some (0, 1, false) := by kernel_rfl
@[simp] theorem tf64_1 : tfield Try.prog 64 1 = some (1, 1, false) := by kernel_rfl
@[simp] theorem tp64 : tplaces Try.prog 64 = some [(0, 1), (1, 1)] := by kernel_rfl
@[simp] theorem tz64 : tzero Try.prog 64 = some (.agg [.p (.int .i64 0), .p (.int .i64 0)]) := by kernel_rfl
@[simp] theorem ts68 : tsize Try.prog 68 = some (4, true) := by kernel_rfl
@[simp] theorem tk68 : tkind Try.prog 68 = 0 := by kernel_rfl
@[simp] theorem ti68 : isIface Try.prog 68 = false := by kernel_rfl
@[simp] theorem tq68 : teqok Try.prog 68 = true := by kernel_rfl
@[simp] theorem tg68 : tflds Try.prog 68 = some [(24, 0), (64, 2)] := by kernel_rfl
@[simp] theorem tstn68 : isString Try.prog 68 = false := by kernel_rfl
@[simp] theorem tbyn68 : isBytes Try.prog 68 = false := by kernel_rfl
@[simp] theorem tf68_0 : tfield Try.prog 68 0 = some (0, 2, true) := by kernel_rfl
@[simp] theorem tf68_1 : tfield Try.prog 68 1 = some (2, 2, true) := by kernel_rfl
@[simp] theorem tp68 : tplaces Try.prog 68 = some [(0, 2), (2, 2)] := by kernel_rfl
@[simp] theorem tz68 : tzero Try.prog 68 = some (.agg [.p (.int .i64 0), .p (.int .i64 0), .p (.int .i64 0), .p (.int .i64 0)]) := by kernel_rfl
@[simp] theorem ts69 : tsize Try.prog 69 = some (4, true) := by kernel_rfl
@[simp] theorem tk69 : tkind Try.prog 69 = 0 := by kernel_rfl
@[simp] theorem ti69 : isIface Try.prog 69 = false := by kernel_rfl
@[simp] theorem tq69 : teqok Try.prog 69 = true := by kernel_rfl
@[simp] theorem tg69 : tflds Try.prog 69 = some [(24, 0), (64, 2)] := by kernel_rfl
@[simp] theorem tstn69 : isString Try.prog 69 = false := by kernel_rfl
@[simp] theorem tbyn69 : isBytes Try.prog 69 = false := by kernel_rfl
@[simp] theorem tf69_0 : tfield Try.prog 69 0 = some (0, 2, true) := by kernel_rfl
@[simp] theorem tf69_1 : tfield Try.prog 69 1 = some (2, 2, true) := by kernel_rfl
@[simp] theorem tp69 : tplaces Try.prog 69 = some [(0, 2), (2, 2)] := by kernel_rfl
@[simp] theorem tz69 : tzero Try.prog 69 = some (.agg [.p (.int .i64 0), .p (.int .i64 0), .p (.int .i64 0), .p (.int .i64 0)]) := by kernel_rfl
@[simp] theorem ts78 : tsize Try.prog 78 = some (1024, true) := by kernel_rfl
@[simp] theorem tk78 : tkind Try.prog 78 = 0 := by kernel_rfl
@[simp] theorem ti78 : isIface Try.prog 78 = false := by kernel_rfl
@[simp] theorem tstn78 : isString Try.prog 78 = false := by kernel_rfl
@[simp] theorem tbyn78 : isBytes Try.prog 78 = false := by kernel_rfl
@[simp] theorem ta78 : tarr Try.prog 78 = some (1024, 1, false) := by kernel_rfl
@[simp] theorem ts88 : tsize Try.prog 88 = some (1, false) := by kernel_rfl
@[simp] theorem tk88 : tkind Try.prog 88 = 5 := by kernel_rfl
@[simp] theorem ti88 : isIface Try.prog 88 = false := by kernel_rfl
@[simp] theorem tstn88 : isString Try.prog 88 = false := by kernel_rfl
@[simp] theorem tbyn88 : isBytes Try.prog 88 = false := by kernel_rfl
@[simp] theorem tmap88 : isMapT Try.prog 88 = true := by kernel_rfl
@[simp] theorem tz88 : tzero Try.prog 88 = some (.p (.map none)) := by kernel_rfl
@[simp] theorem ts89 : tsize Try.prog 89 = some (1, false) := by kernel_rfl
@[simp] theorem tk89 : tkind Try.prog 89 = 5 := by kernel_rfl
@[simp] theorem ti89 : isIface Try.prog 89 = false := by kernel_rfl
@[simp] theorem tstn89 : isString Try.prog 89 = false := by kernel_rfl
@[simp] theorem tbyn89 : isBytes Try.prog 89 = false := by kernel_rfl
@[simp] theorem tmap89 : isMapT Try.prog 89 = true := by kernel_rfl
@[simp] theorem tz89 : tzero Try.prog 89 = some (.p (.map none)) := by kernel_rfl
@[simp] theorem ts92 : tsize Try.prog 92 = some (3, true) := by kernel_rfl
@[simp] theorem tk92 : tkind Try.prog 92 = 0 := by kernel_rfl
@[simp] theorem ti92 : isIface Try.prog 92 = false := by kernel_rfl
@[simp] theorem tq92 : teqok Try.prog 92 = true := by kernel_rfl
@[simp] theorem tg92 : tflds Try.prog 92 = some [(24, 0), (3, 2)] := by kernel_rfl
@[simp] theorem tstn92 : isString Try.prog 92 = false := by kernel_rfl
@[simp] theorem tbyn92 : isBytes Try.prog 92 = false := by kernel_rfl
@[simp] theorem tf92_0 : tfield Try.prog 92 0 = some (0, 2, true) := by kernel_rfl
@[simp] theorem tf92_1 : tfield Try.prog 92 1 = some (2, 1, false) := by kernel_rfl
@[simp] theorem tp92 : tplaces Try.prog 92 = some [(0, 2), (2, 1)] := by kernel_rfl
@[simp] theorem tz92 : tzero Try.prog 92 = some (.agg [.p (.int .i64 0), .p (.int .i64 0), .p (.int .i64 0)]) := by kernel_rfl
@[simp] theorem ts93 : tsize Try.prog 93 = some (3, true) := by kernel_rfl
@[simp] theorem tk93 : tkind Try.prog 93 = 0 := by kernel_rfl
@[simp] theorem ti93 : isIface Try.prog 93 = false := by kernel_rfl
@[simp] theorem tq93 : teqok Try.prog 93 = true := by kernel_rfl
@[simp] theorem tg93 : tflds Try.prog 93 = some [(24, 0), (3, 2)] := by kernel_rfl
@[simp] theorem tstn93 : isString Try.prog 93 = false := by kernel_rfl
@[simp] theorem tbyn93 : isBytes Try.prog 93 = false := by kernel_rfl
@[simp] theorem tf93_0 : tfield Try.prog 93 0 = some (0, 2, true) := by kernel_rfl
@[simp] theorem tf93_1 : tfield Try.prog 93 1 = some (2, 1, false) := by kernel_rfl
@[simp] theorem tp93 : tplaces Try.prog 93 = some [(0, 2), (2, 1)] := by kernel_rfl
@[simp] theorem tz93 : tzero Try.prog 93 = some (.agg [.p (.int .i64 0), .p (.int .i64 0), .p (.int .i64 0)]) := by kernel_rfl
@[simp] theorem ts96 : tsize Try.prog 96 = some (1, false) := by kernel_rfl
@[simp] theorem tk96 : tkind Try.prog 96 = 0 := by kernel_rfl
@[simp] theorem ti96 : isIface Try.prog 96 = false := by kernel_rfl
@[simp] theorem tl96 : tleaf Try.prog 96 = 2 := by kernel_rfl
@[simp] theorem tu96 : Try.prog.underlying 96 = some (.int .u64) := by kernel_rfl
@[simp] theorem tstn96 : isString Try.prog 96 = false := by kernel_rfl
@[simp] theorem tbyn96 : isBytes Try.prog 96 = false := by kernel_rfl
@[simp] theorem tz96 : tzero Try.prog 96 = some (.p (.int .u64 0)) := by kernel_rfl
@[simp] theorem ts97 : tsize Try.prog 97 = some (5, true) := by kernel_rfl
@[simp] theorem tk97 : tkind Try.prog 97 = 0 := by kernel_rfl
@[simp] theorem ti97 : isIface Try.prog 97 = false := by kernel_rfl
@[simp] theorem tq97 : teqok Try.prog 97 = true := by kernel_rfl
@[simp] theorem tg97 : tflds Try.prog 97 = some [(24, 0), (5, 2), (3, 3), (96, 4)] := by kernel_rfl
@[simp] theorem tstn97 : isString Try.prog 97 = false := by kernel_rfl
@[simp] theorem tbyn97 : isBytes Try.prog 97 = false := by kernel_rfl
@[simp] theorem tf97_0 : tfield Try.prog 97 0 = some (0, 2, true) := by kernel_rfl
@[simp] theorem tf97_1 : tfield Try.prog 97 1 = some (2, 1, false) := by kernel_rfl
@[simp] theorem tf97_2 : tfield Try.prog 97 2 = some (3, 1, false) := by kernel_rfl
@[simp] theorem tf97_3 : tfield Try.prog 97 3 = some (4, 1, false) := by kernel_rfl
@[simp] theorem tp97 : tplaces Try.prog 97 = some [(0, 2), (2, 1), (3, 1), (4, 1)] := by kernel_rfl
@[simp] theorem tz97 : tzero Try.prog 97 = some (.agg [.p (.int .i64 0), .p (.int .i64 0), .p (.int .u8 0), .p (.int .i64 0), .p (.int .u64 0)]) := by kernel_rfl
@[simp] theorem ts98 : tsize Try.prog 98 = some (5, true) := by kernel_rfl
@[simp] theorem tk98 : tkind Try.prog 98 = 0 := by kernel_rfl
@[simp] theorem ti98 : isIface Try.prog 98 = false := by kernel_rfl
@[simp] theorem tq98 : teqok Try.prog 98 = true := by kernel_rfl
@[simp] theorem tg98 : tflds Try.prog 98 = some [(24, 0), (5, 2), (3, 3), (96, 4)] := by kernel_rfl
@[simp] theorem tstn98 : isString Try.prog 98 = false := by kernel_rfl
@[simp] theorem tbyn98 : isBytes Try.prog 98 = false := by kernel_rfl
@[simp] theorem tf98_0 : tfield Try.prog 98 0 = some (0, 2, true) := by kernel_rfl
@[simp] theorem tf98_1 : tfield Try.prog 98 1 = some (2, 1, false) := by kernel_rfl
@[simp] theorem tf98_2 : tfield Try.prog 98 2 = some (3, 1, false) := by kernel_rfl
@[simp] theorem tf98_3 : tfield Try.prog 98 3 = some (4, 1, false) := by kernel_rfl
@[simp] theorem tp98 : tplaces Try.prog 98 = some [(0, 2), (2, 1), (3, 1), (4, 1)] := by kernel_rfl
@[simp] theorem tz98 : tzero Try.prog 98 = some (.agg [.p (.int .i64 0), .p (.int .i64 0), .p (.int .u8 0), .p (.int .i64 0), .p (.int .u64 0)]) := by kernel_rfl
@[simp] theorem ts102 : tsize Try.prog 102 = some (1, false) := by kernel_rfl
@[simp] theorem tk102 : tkind Try.prog 102 = 5 := by kernel_rfl
@[simp] theorem ti102 : isIface Try.prog 102 = false := by kernel_rfl
@[simp] theorem tstn102 : isString Try.prog 102 = false := by kernel_rfl
@[simp] theorem tbyn102 : isBytes Try.prog 102 = false := by kernel_rfl
@[simp] theorem tmap102 : isMapT Try.prog 102 = true := by kernel_rfl
@[simp] theorem tz102 : tzero Try.prog 102 = some (.p (.map none)) := by kernel_rfl
@[simp] theorem ts103 : tsize Try.prog 103 = some (1, false) := by kernel_rfl
@[simp] theorem tk103 : tkind Try.prog 103 = 5 := by kernel_rfl
@[simp] theorem ti103 : isIface Try.prog 103 = false := by kernel_rfl
@[simp] theorem tstn103 : isString Try.prog 103 = false := by kernel_rfl
@[simp] theorem tbyn103 : isBytes Try.prog 103 = false := by kernel_rfl
@[simp] theorem tmap103 : isMapT Try.prog 103 = true := by kernel_rfl
@[simp] theorem tz103 : tzero Try.prog 103 = some (.p (.map none)) := by kernel_rfl
@[simp] theorem ts105 : tsize Try.prog 105 = some (1, false) := by kernel_rfl
@[simp] theorem tk105 : tkind Try.prog 105 = 4 := by kernel_rfl
@[simp] theorem ti105 : isIface Try.prog 105 = false := by kernel_rfl
@[simp] theorem tby105 : isBytes Try.prog 105 = false := by kernel_rfl
@[simp] theorem tstn105 : isString Try.prog 105 = false := by kernel_rfl
@[simp] theorem tsl105 : isSlice Try.prog 105 = true := by kernel_rfl
@[simp] theorem te105 : telem Try.prog 105 = some (6, true, 56) := by kernel_rfl
@[simp] theorem tet105 : telemT Try.prog 105 = some 126 := by kernel_rfl
@[simp] theorem tz105 : tzero Try.prog 105 = some (.p (.slice none 0 0)) := by kernel_rfl
@[simp] theorem ts108 : tsize Try.prog 108 = some (1, false) := by kernel_rfl
@[simp] theorem tk108 : tkind Try.prog 108 = 2 := by kernel_rfl
@[simp] theorem ti108 : isIface Try.prog 108 = false := by kernel_rfl
@[simp] theorem tstn108 : isString Try.prog 108 = false := by kernel_rfl
@[simp] theorem tbyn108 : isBytes Try.prog 108 = false := by kernel_rfl
@[simp] theorem tz108 : tzero Try.prog 108 = some (.p (.pointer none)) := by kernel_rfl
@[simp] theorem ts109 : tsize Try.prog 109 = some (5, true) := by kernel_rfl
@[simp] theorem tk109 : tkind Try.prog 109 = 0 := by kernel_rfl
@[simp] theorem ti109 : isIface Try.prog 109 = false := by kernel_rfl
@[simp] theorem tstn109 : isString Try.prog 109 = false := by kernel_rfl
@[simp] theorem tbyn109 : isBytes Try.prog 109 = false := by kernel_rfl
@[simp] theorem tf109_0 : tfield Try.prog 109 0 = some (0, 1, false) := by kernel_rfl
@[simp] theorem tf109_1 : tfield Try.prog 109 1 = some (1, 1, false) := by kernel_rfl
@[simp] theorem tf109_2 : tfield Try.prog 109 2 = some (2, 1, false) := by kernel_rfl
@[simp] theorem tf109_3 : tfield Try.prog 109 3 = some (3, 1, false) := by kernel_rfl
@[simp] theorem tf109_4 : tfield Try.prog 109 4 = some (4, 1, false) := by kernel_rfl
@[simp] theorem tp109 : tplaces Try.prog 109 = some [(0, 1), (1, 1), (2, 1), (3, 1), (4, 1)] := by kernel_rfl
@[simp] theorem tz109 : tzero Try.prog 109 = some (.agg [.p (.slice none 0 0), .p (.int .i64 0), .p (.int .i64 0), .p (.bool false), .p (.int .i64 0)]) := by kernel_rfl
@[simp] theorem ts110 : tsize Try.prog 110 = some (5, true) := by kernel_rfl
@[simp] theorem tk110 : tkind Try.prog 110 = 0 := by kernel_rfl
@[simp] theorem ti110 : isIface Try.prog 110 = false := by kernel_rfl
@[simp] theorem tstn110 : isString Try.prog 110 = false := by kernel_rfl
@[simp] theorem tbyn110 : isBytes Try.prog 110 = false := by kernel_rfl
@[simp] theorem tf110_0 : tfield Try.prog 110 0 = some (0, 1, false) := by kernel_rfl
@[simp] theorem tf110_1 : tfield Try.prog 110 1 = some (1, 1, false) := by kernel_rfl
@[simp] theorem tf110_2 : tfield Try.prog 110 2 = some (2, 1, false) := by kernel_rfl
@[simp] theorem tf110_3 : tfield Try.prog 110 3 = some (3, 1, false) := by kernel_rfl
@[simp] theorem tf110_4 : tfield Try.prog 110 4 = some (4, 1, false) := by kernel_rfl
@[simp] theorem tp110 : tplaces Try.prog 110 = some [(0, 1), (1, 1), (2, 1), (3, 1), (4, 1)] := by kernel_rfl
@[simp] theorem tz110 : tzero Try.prog 110 = some (.agg [.p (.slice none 0 0), .p (.int .i64 0), .p (.int .i64 0), .p (.bool false), .p (.int .i64 0)]) := by kernel_rfl
@[simp] theorem ts123 : tsize Try.prog 123 = some (1, false) := by kernel_rfl
@[simp] theorem tk123 : tkind Try.prog 123 = 5 := by kernel_rfl
@[simp] theorem ti123 : isIface Try.prog 123 = false := by kernel_rfl
@[simp] theorem tstn123 : isString Try.prog 123 = false := by kernel_rfl
@[simp] theorem tbyn123 : isBytes Try.prog 123 = false := by kernel_rfl
@[simp] theorem tmap123 : isMapT Try.prog 123 = true := by kernel_rfl
@[simp] theorem tz123 : tzero Try.prog 123 = some (.p (.map none)) := by kernel_rfl
@[simp] theorem ts125 : tsize Try.prog 125 = some (6, true) := by kernel_rfl
@[simp] theorem tk125 : tkind Try.prog 125 = 0 := by kernel_rfl
@[simp] theorem ti125 : isIface Try.prog 125 = false := by kernel_rfl
@[simp] theorem tq125 : teqok Try.prog 125 = true := by kernel_rfl
@[simp] theorem tg125 : tflds Try.prog 125 = some [(3, 0), (3, 1), (24, 2), (9, 4), (3, 5)] := by kernel_rfl
@[simp] theorem tstn125 : isString Try.prog 125 = false := by kernel_rfl
@[simp] theorem tbyn125 : isBytes Try.prog 125 = false := by kernel_rfl
@[simp] theorem tf125_0 : tfield Try.prog 125 0 = some (0, 1, false) := by kernel_rfl
@[simp] theorem tf125_1 : tfield Try.prog 125 1 = some (1, 1, false) := by kernel_rfl
@[simp] theorem tf125_2 : tfield Try.prog 125 2 = some (2, 2, true) := by kernel_rfl
@[simp] theorem tf125_3 : tfield Try.prog 125 3 = some (4, 1, false) := by kernel_rfl
@[simp] theorem tf125_4 : tfield Try.prog 125 4 = some (5, 1, false) := by kernel_rfl
@[simp] theorem tp125 : tplaces Try.prog 125 = some [(0, 1), (1, 1), (2, 2), (4, 1), (5, 1)] := by kernel_rfl
@[simp] theorem tz125 : tzero Try.prog 125 = some (.agg [.p (.int .i64 0), .p (.int .i64 0), .p (.int .i64 0), .p (.int .i64 0), .p (.string ⟨#[]⟩), .p (.int .i64 0)]) := by kernel_rfl
@[simp] theorem ts126 : tsize Try.prog 126 = some (6, true) := by kernel_rfl
@[simp] theorem tk126 : tkind Try.prog 126 = 0 := by kernel_rfl
@[simp] theorem ti126 : isIface Try.prog 126 = false := by kernel_rfl
@[simp] theorem tq126 : teqok Try.prog 126 = true := by kernel_rfl
@[simp] theorem tg126 : tflds Try.prog 126 = some [(3, 0), (3, 1), (24, 2), (9, 4), (3, 5)] := by kernel_rfl
@[simp] theorem tstn126 : isString Try.prog 126 = false := by kernel_rfl
@[simp] theorem tbyn126 : isBytes Try.prog 126 = false := by kernel_rfl
@[simp] theorem tf126_0 : tfield Try.prog 126 0 = some (0, 1, false) := by kernel_rfl
@[simp] theorem tf126_1 : tfield Try.prog 126 1 = some (1, 1, false) := by kernel_rfl
@[simp] theorem tf126_2 : tfield Try.prog 126 2 = some (2, 2, true) := by kernel_rfl
@[simp] theorem tf126_3 : tfield Try.prog 126 3 = some (4, 1, false) := by kernel_rfl
@[simp] theorem tf126_4 : tfield Try.prog 126 4 = some (5, 1, false) := by kernel_rfl
@[simp] theorem tp126 : tplaces Try.prog 126 = some [(0, 1), (1, 1), (2, 2), (4, 1), (5, 1)] := by kernel_rfl
@[simp] theorem tz126 : tzero Try.prog 126 = some (.agg [.p (.int .i64 0), .p (.int .i64 0), .p (.int .i64 0), .p (.int .i64 0), .p (.string ⟨#[]⟩), .p (.int .i64 0)]) := by kernel_rfl
@[simp] theorem ts134 : tsize Try.prog 134 = some (1, false) := by kernel_rfl
@[simp] theorem tk134 : tkind Try.prog 134 = 0 := by kernel_rfl
@[simp] theorem ti134 : isIface Try.prog 134 = false := by kernel_rfl
@[simp] theorem tu134 : Try.prog.underlying 134 = some (.complex .f64) := by kernel_rfl
@[simp] theorem tstn134 : isString Try.prog 134 = false := by kernel_rfl
@[simp] theorem tbyn134 : isBytes Try.prog 134 = false := by kernel_rfl
@[simp] theorem tz134 : tzero Try.prog 134 = some (.p (.complex .f64 0 0)) := by kernel_rfl
@[simp] theorem ts135 : tsize Try.prog 135 = some (1, false) := by kernel_rfl
@[simp] theorem tk135 : tkind Try.prog 135 = 0 := by kernel_rfl
@[simp] theorem ti135 : isIface Try.prog 135 = false := by kernel_rfl
@[simp] theorem tu135 : Try.prog.underlying 135 = some (.complex .f64) := by kernel_rfl
@[simp] theorem tstn135 : isString Try.prog 135 = false := by kernel_rfl
@[simp] theorem tbyn135 : isBytes Try.prog 135 = false := by kernel_rfl
@[simp] theorem tz135 : tzero Try.prog 135 = some (.p (.complex .f64 0 0)) := by kernel_rfl
@[simp] theorem ts143 : tsize Try.prog 143 = some (1, false) := by kernel_rfl
@[simp] theorem tk143 : tkind Try.prog 143 = 4 := by kernel_rfl
@[simp] theorem ti143 : isIface Try.prog 143 = false := by kernel_rfl
@[simp] theorem tby143 : isBytes Try.prog 143 = false := by kernel_rfl
@[simp] theorem tstn143 : isString Try.prog 143 = false := by kernel_rfl
@[simp] theorem tsl143 : isSlice Try.prog 143 = true := by kernel_rfl
@[simp] theorem te143 : telem Try.prog 143 = some (2, true, 16) := by kernel_rfl
@[simp] theorem tet143 : telemT Try.prog 143 = some 64 := by kernel_rfl
@[simp] theorem tz143 : tzero Try.prog 143 = some (.p (.slice none 0 0)) := by kernel_rfl
@[simp] theorem ts152 : tsize Try.prog 152 = some (1, false) := by kernel_rfl
@[simp] theorem tk152 : tkind Try.prog 152 = 5 := by kernel_rfl
@[simp] theorem ti152 : isIface Try.prog 152 = false := by kernel_rfl
@[simp] theorem tstn152 : isString Try.prog 152 = false := by kernel_rfl
@[simp] theorem tbyn152 : isBytes Try.prog 152 = false := by kernel_rfl
@[simp] theorem tmap152 : isMapT Try.prog 152 = true := by kernel_rfl
@[simp] theorem tz152 : tzero Try.prog 152 = some (.p (.map none)) := by kernel_rfl
@[simp] theorem ts166 : tsize Try.prog 166 = some (1, false) := by kernel_rfl
@[simp] theorem tk166 : tkind Try.prog 166 = 0 := by kernel_rfl
@[simp] theorem ti166 : isIface Try.prog 166 = false := by kernel_rfl
@[simp] theorem tu166 : Try.prog.underlying 166 = some (.float .f64) := by kernel_rfl
@[simp] theorem tstn166 : isString Try.prog 166 = false := by kernel_rfl
@[simp] theorem tbyn166 : isBytes Try.prog 166 = false := by kernel_rfl
@[simp] theorem tz166 : tzero Try.prog 166 = some (.p (.float .f64 0)) := by kernel_rfl
@[simp] theorem ts177 : tsize Try.prog 177 = some (1, false) := by kernel_rfl
@[simp] theorem tk177 : tkind Try.prog 177 = 4 := by kernel_rfl
@[simp] theorem ti177 : isIface Try.prog 177 = false := by kernel_rfl
@[simp] theorem tby177 : isBytes Try.prog 177 = true := by kernel_rfl
@[simp] theorem tstn177 : isString Try.prog 177 = false := by kernel_rfl
@[simp] theorem tsl177 : isSlice Try.prog 177 = true := by kernel_rfl
@[simp] theorem te177 : telem Try.prog 177 = some (1, false, 1) := by kernel_rfl
@[simp] theorem tet177 : telemT Try.prog 177 = some 5 := by kernel_rfl
@[simp] theorem tz177 : tzero Try.prog 177 = some (.p (.slice none 0 0)) := by kernel_rfl
@[simp] theorem ts178 : tsize Try.prog 178 = some (1, false) := by kernel_rfl
@[simp] theorem tk178 : tkind Try.prog 178 = 4 := by kernel_rfl
@[simp] theorem ti178 : isIface Try.prog 178 = false := by kernel_rfl
@[simp] theorem tby178 : isBytes Try.prog 178 = false := by kernel_rfl
@[simp] theorem tstn178 : isString Try.prog 178 = false := by kernel_rfl
@[simp] theorem tsl178 : isSlice Try.prog 178 = true := by kernel_rfl
@[simp] theorem te178 : telem Try.prog 178 = some (1, false, 16) := by kernel_rfl
@[simp] theorem tet178 : telemT Try.prog 178 = some 9 := by kernel_rfl
@[simp] theorem tz178 : tzero Try.prog 178 = some (.p (.slice none 0 0)) := by kernel_rfl
@[simp] theorem ts179 : tsize Try.prog 179 = some (3, true) := by kernel_rfl
@[simp] theorem tk179 : tkind Try.prog 179 = 0 := by kernel_rfl
@[simp] theorem ti179 : isIface Try.prog 179 = false := by kernel_rfl
@[simp] theorem tstn179 : isString Try.prog 179 = false := by kernel_rfl
@[simp] theorem tbyn179 : isBytes Try.prog 179 = false := by kernel_rfl
@[simp] theorem tp179 : tplaces Try.prog 179 = some [(0, 1), (1, 1), (2, 1)] := by kernel_rfl
@[simp] theorem ta179 : tarr Try.prog 179 = some (3, 1, false) := by kernel_rfl
@[simp] theorem tz179 : tzero Try.prog 179 = some (.agg [.p (.slice none 0 0), .p (.slice none 0 0), .p (.slice none 0 0)]) := by kernel_rfl
@[simp] theorem ts188 : tsize Try.prog 188 = some (1, false) := by kernel_rfl
@[simp] theorem tk188 : tkind Try.prog 188 = 4 := by kernel_rfl
@[simp] theorem ti188 : isIface Try.prog 188 = false := by kernel_rfl
@[simp] theorem tby188 : isBytes Try.prog 188 = false := by kernel_rfl
@[simp] theorem tstn188 : isString Try.prog 188 = false := by kernel_rfl
@[simp] theorem tsl188 : isSlice Try.prog 188 = true := by kernel_rfl
@[simp] theorem te188 : telem Try.prog 188 = some (1, false, 1) := by kernel_rfl
@[simp] theorem tet188 : telemT Try.prog 188 = some 4 := by kernel_rfl
@[simp] theorem tz188 : tzero Try.prog 188 = some (.p (.slice none 0 0)) := by kernel_rfl
@[simp] theorem ts196 : tsize Try.prog 196 = some (1, false) := by kernel_rfl
@[simp] theorem tk196 : tkind Try.prog 196 = 0 := by kernel_rfl
@[simp] theorem ti196 : isIface Try.prog 196 = false := by kernel_rfl
@[simp] theorem tl196 : tleaf Try.prog 196 = 2 := by kernel_rfl
@[simp] theorem tu196 : Try.prog.underlying 196 = some (.int .u32) := by kernel_rfl
@[simp] theorem tstn196 : isString Try.prog 196 = false := by kernel_rfl
@[simp] theorem tbyn196 : isBytes Try.prog 196 = false := by kernel_rfl
@[simp] theorem tz196 : tzero Try.prog 196 = some (.p (.int .u32 0)) := by kernel_rfl
@[simp] theorem ts200 : tsize Try.prog 200 = some (1, false) := by kernel_rfl
@[simp] theorem tk200 : tkind Try.prog 200 = 2 := by kernel_rfl
@[simp] theorem ti200 : isIface Try.prog 200 = false := by kernel_rfl
@[simp] theorem tstn200 : isString Try.prog 200 = false := by kernel_rfl
@[simp] theorem tbyn200 : isBytes Try.prog 200 = false := by kernel_rfl
@[simp] theorem tz200 : tzero Try.prog 200 = some (.p (.pointer none)) := by kernel_rfl
end Go.AL
