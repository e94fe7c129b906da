/- Parts of the proof of BranchOthers: the logic, contracts, plain laws. -/
import Derived.Test.YtjldlcakinmajaaZBranchOthers5
import Derived.Test.YtjldlcakinmajaaProg
import Derived.Test.YtjldlcakinmajaaZBranchOthers7
import Derived.Test.YtjldlcakinmajaaZBranchOthers8
/-! What the logic wants to know of the types. -/
namespace Go.AL
open Go.Proofs
@[simp] theorem ts2 : tsize Try.prog 2 = some (1, false) := by kernel_rfl
@[simp] theorem tk2 : tkind Try.prog 2 = 0 := by kernel_rfl
@[simp] theorem ti2 : isIface Try.prog 2 = false := by kernel_rfl
@[simp] theorem tl2 : tleaf Try.prog 2 = 2 := by kernel_rfl
@[simp] theorem tu2 : Try.prog.underlying 2 = some (.int .i64) := by kernel_rfl
@[simp] theorem tstn2 : isString Try.prog 2 = false := by kernel_rfl
@[simp] theorem tbyn2 : isBytes Try.prog 2 = false := by kernel_rfl
@[simp] theorem tz2 : tzero Try.prog 2 = some (.p (.int .i64 0)) := by kernel_rfl
@[simp] theorem ts3 : tsize Try.prog 3 = some (1, false) := by kernel_rfl
@[simp] theorem tk3 : tkind Try.prog 3 = 0 := by kernel_rfl
@[simp] theorem ti3 : isIface Try.prog 3 = false := by kernel_rfl
@[simp] theorem tl3 : tleaf Try.prog 3 = 2 := by kernel_rfl
@[simp] theorem tu3 : Try.prog.underlying 3 = some (.int .i64) := by kernel_rfl
@[simp] theorem tstn3 : isString Try.prog 3 = false := by kernel_rfl
@[simp] theorem tbyn3 : isBytes Try.prog 3 = false := by kernel_rfl
@[simp] theorem tz3 : tzero Try.prog 3 = some (.p (.int .i64 0)) := by kernel_rfl
@[simp] theorem ts4 : tsize Try.prog 4 = some (1, false) := by kernel_rfl
@[simp] theorem tk4 : tkind Try.prog 4 = 1 := by kernel_rfl
@[simp] theorem ti4 : isIface Try.prog 4 = false := by kernel_rfl
@[simp] theorem tl4 : tleaf Try.prog 4 = 1 := by kernel_rfl
@[simp] theorem tu4 : Try.prog.underlying 4 = some .bool := by kernel_rfl
@[simp] theorem tstn4 : isString Try.prog 4 = false := by kernel_rfl
@[simp] theorem tbyn4 : isBytes Try.prog 4 = false := by kernel_rfl
@[simp] theorem tz4 : tzero Try.prog 4 = some (.p (.bool false)) := by kernel_rfl
@[simp] theorem ts5 : tsize Try.prog 5 = some (1, false) := by kernel_rfl
@[simp] theorem tk5 : tkind Try.prog 5 = 0 := by kernel_rfl
@[simp] theorem ti5 : isIface Try.prog 5 = false := by kernel_rfl
@[simp] theorem tl5 : tleaf Try.prog 5 = 2 := by kernel_rfl
@[simp] theorem tu5 : Try.prog.underlying 5 = some (.int .u8) := by kernel_rfl
@[simp] theorem tstn5 : isString Try.prog 5 = false := by kernel_rfl
@[simp] theorem tbyn5 : isBytes Try.prog 5 = false := by kernel_rfl
@[simp] theorem tz5 : tzero Try.prog 5 = some (.p (.int .u8 0)) := by kernel_rfl
@[simp] theorem ts9 : tsize Try.prog 9 = some (1, false) := by kernel_rfl
@[simp] theorem tk9 : tkind Try.prog 9 = 0 := by kernel_rfl
@[simp] theorem ti9 : isIface Try.prog 9 = false := by kernel_rfl
@[simp] theorem tl9 : tleaf Try.prog 9 = 3 := by kernel_rfl
@[simp] theorem tstr9 : isString Try.prog 9 = true := by kernel_rfl
@[simp] theorem tu9 : Try.prog.underlying 9 = some .string := by kernel_rfl
@[simp] theorem tbyn9 : isBytes Try.prog 9 = false := by kernel_rfl
@[simp] theorem tz9 : tzero Try.prog 9 = some (.p (.string ⟨#[]⟩)) := by kernel_rfl
@[simp] theorem ts12 : tsize Try.prog 12 = some (1, false) := by kernel_rfl
@[simp] theorem tk12 : tkind Try.prog 12 = 0 := by kernel_rfl
@[simp] theorem ti12 : isIface Try.prog 12 = false := by kernel_rfl
@[simp] theorem tl12 : tleaf Try.prog 12 = 2 := by kernel_rfl
@[simp] theorem tu12 : Try.prog.underlying 12 = some (.int .u64) := by kernel_rfl
@[simp] theorem tstn12 : isString Try.prog 12 = false := by kernel_rfl
@[simp] theorem tbyn12 : isBytes Try.prog 12 = false := by kernel_rfl
@[simp] theorem tz12 : tzero Try.prog 12 = some (.p (.int .u64 0)) := by kernel_rfl
@[simp] theorem ts13 : tsize Try.prog 13 = some (2, true) := by kernel_rfl
@[simp] theorem tk13 : tkind Try.prog 13 = 0 := by kernel_rfl
@[simp] theorem ti13 : isIface Try.prog 13 = false := by kernel_rfl
@[simp] theorem tstn13 : isString Try.prog 13 = false := by kernel_rfl
@[simp] theorem tbyn13 : isBytes Try.prog 13 = false := by kernel_rfl
@[simp] theorem tf13_0 : tfield Try.prog 13 0 = some (0, 1, false) := by kernel_rfl
@[simp] theorem tf13_1 : tfield Try.prog 13 1 = some (1, 1, false) := by kernel_rfl
@[simp] theorem tp13 : tplaces Try.prog 13 = some [(0, 1), (1, 1)] := by kernel_rfl
@[simp] theorem tz13 : tzero Try.prog 13 = some (.agg [.p (.string ⟨#[]⟩), .p (.int .u64 0)]) := by kernel_rfl
@[simp] theorem ts20 : tsize Try.prog 20 = some (1, false) := by kernel_rfl
@[simp] theorem tk20 : tkind Try.prog 20 = 3 := by kernel_rfl
@[simp] theorem ti20 : isIface Try.prog 20 = true := by kernel_rfl
@[simp] theorem tstn20 : isString Try.prog 20 = false := by kernel_rfl
@[simp] theorem tbyn20 : isBytes Try.prog 20 = false := by kernel_rfl
@[simp] theorem tz20 : tzero Try.prog 20 = some (.p (.nilIface)) := by kernel_rfl
@[simp] theorem ts21 : tsize Try.prog 21 = some (1, false) := by kernel_rfl
@[simp] theorem tk21 : tkind Try.prog 21 = 0 := by kernel_rfl
@[simp] theorem ti21 : isIface Try.prog 21 = false := by kernel_rfl
@[simp] theorem tl21 : tleaf Try.prog 21 = 2 := by kernel_rfl
@[simp] theorem tu21 : Try.prog.underlying 21 = some (.int .i32) := by kernel_rfl
@[simp] theorem tstn21 : isString Try.prog 21 = false := by kernel_rfl
@[simp] theorem tbyn21 : isBytes Try.prog 21 = false := by kernel_rfl
@[simp] theorem tz21 : tzero Try.prog 21 = some (.p (.int .i32 0)) := by kernel_rfl
@[simp] theorem ts22 : tsize Try.prog 22 = some (1, false) := by kernel_rfl
@[simp] theorem tk22 : tkind Try.prog 22 = 0 := by kernel_rfl
@[simp] theorem ti22 : isIface Try.prog 22 = false := by kernel_rfl
@[simp] theorem tl22 : tleaf Try.prog 22 = 2 := by kernel_rfl
@[simp] theorem tu22 : Try.prog.underlying 22 = some (.int .i64) := by kernel_rfl
@[simp] theorem tstn22 : isString Try.prog 22 = false := by kernel_rfl
@[simp] theorem tbyn22 : isBytes Try.prog 22 = false := by kernel_rfl
@[simp] theorem tz22 : tzero Try.prog 22 = some (.p (.int .i64 0)) := by kernel_rfl
@[simp] theorem ts23 : tsize Try.prog 23 = some (2, true) := by kernel_rfl
@[simp] theorem tk23 : tkind Try.prog 23 = 0 := by kernel_rfl
@[simp] theorem ti23 : isIface Try.prog 23 = false := by kernel_rfl
@[simp] theorem tq23 : teqok Try.prog 23 = true := by kernel_rfl
@[simp] theorem tg23 : tflds Try.prog 23 = some [(3, 0), (3, 1)] := by kernel_rfl
@[simp] theorem tstn23 : isString Try.prog 23 = false := by kernel_rfl
@[simp] theorem tbyn23 : isBytes Try.prog 23 = false := by kernel_rfl
@[simp] theorem tf23_0 : tfield Try.prog 23 0 = some (0, 1, false) := by kernel_rfl
@[simp] theorem tf23_1 : tfield Try.prog 23 1 = some (1, 1, false) := by kernel_rfl
@[simp] theorem tp23 : tplaces Try.prog 23 = some [(0, 1), (1, 1)] := by kernel_rfl
@[simp] theorem tz23 : tzero Try.prog 23 = some (.agg [.p (.int .i64 0), .p (.int .i64 0)]) := by kernel_rfl
@[simp] theorem ts24 : tsize Try.prog 24 = some (2, true) := by kernel_rfl
@[simp] theorem tk24 : tkind Try.prog 24 = 0 := by kernel_rfl
@[simp] theorem ti24 : isIface Try.prog 24 = false := by kernel_rfl
@[simp] theorem tq24 : teqok Try.prog 24 = true := by kernel_rfl
@[simp] theorem tg24 : tflds Try.prog 24 = some [(3, 0), (3, 1)] := by kernel_rfl
@[simp] theorem tstn24 : isString Try.prog 24 = false := by kernel_rfl
@[simp] theorem tbyn24 : isBytes Try.prog 24 = false := by kernel_rfl
@[simp] theorem tf24_0 : tfield Try.prog 24 0 = some (0, 1, false) := by kernel_rfl
@[simp] theorem tf24_1 : tfield Try.prog 24 1 = some (1, 1, false) := by kernel_rfl
@[simp] theorem tp24 : tplaces Try.prog 24 = some [(0, 1), (1, 1)] := by kernel_rfl
@[simp] theorem tz24 : tzero Try.prog 24 = some (.agg [.p (.int .i64 0), .p (.int .i64 0)]) := by kernel_rfl
@[simp] theorem ts25 : tsize Try.prog 25 = some (4, true) := by kernel_rfl
@[simp] theorem tk25 : tkind Try.prog 25 = 0 := by kernel_rfl
@[simp] theorem ti25 : isIface Try.prog 25 = false := by kernel_rfl
@[simp] theorem tq25 : teqok Try.prog 25 = true := by kernel_rfl
@[simp] theorem tg25 : tflds Try.prog 25 = some [(24, 0), (24, 2)] := by kernel_rfl
@[simp] theorem tstn25 : isString Try.prog 25 = false := by kernel_rfl
@[simp] theorem tbyn25 : isBytes Try.prog 25 = false := by kernel_rfl
@[simp] theorem tf25_0 : tfield Try.prog 25 0 = some (0, 2, true) := by kernel_rfl
@[simp] theorem tf25_1 : tfield Try.prog 25 1 = some (2, 2, true) := by kernel_rfl
@[simp] theorem tp25 : tplaces Try.prog 25 = some [(0, 2), (2, 2)] := by kernel_rfl
@[simp] theorem tz25 : tzero Try.prog 25 = some (.agg [.p (.int .i64 0), .p (.int .i64 0), .p (.int .i64 0), .p (.int .i64 0)]) := by kernel_rfl
@[simp] theorem ts26 : tsize Try.prog 26 = some (4, true) := by kernel_rfl
@[simp] theorem tk26 : tkind Try.prog 26 = 0 := by kernel_rfl
@[simp] theorem ti26 : isIface Try.prog 26 = false := by kernel_rfl
@[simp] theorem tq26 : teqok Try.prog 26 = true := by kernel_rfl
@[simp] theorem tg26 : tflds Try.prog 26 = some [(24, 0), (24, 2)] := by kernel_rfl
@[simp] theorem tstn26 : isString Try.prog 26 = false := by kernel_rfl
@[simp] theorem tbyn26 : isBytes Try.prog 26 = false := by kernel_rfl
@[simp] theorem tf26_0 : tfield Try.prog 26 0 = some (0, 2, true) := by kernel_rfl
@[simp] theorem tf26_1 : tfield Try.prog 26 1 = some (2, 2, true) := by kernel_rfl
@[simp] theorem tp26 : tplaces Try.prog 26 = some [(0, 2), (2, 2)] := by kernel_rfl
@[simp] theorem tz26 : tzero Try.prog 26 = some (.agg [.p (.int .i64 0), .p (.int .i64 0), .p (.int .i64 0), .p (.int .i64 0)]) := by kernel_rfl
@[simp] theorem ts27 : tsize Try.prog 27 = some (1, false) := by kernel_rfl
@[simp] theorem tk27 : tkind Try.prog 27 = 4 := by kernel_rfl
@[simp] theorem ti27 : isIface Try.prog 27 = false := by kernel_rfl
@[simp] theorem tby27 : isBytes Try.prog 27 = false := by kernel_rfl
@[simp] theorem tstn27 : isString Try.prog 27 = false := by kernel_rfl
@[simp] theorem tsl27 : isSlice Try.prog 27 = true := by kernel_rfl
@[simp] theorem te27 : telem Try.prog 27 = some (8, true, 88) := by kernel_rfl
@[simp] theorem tet27 : telemT Try.prog 27 = some 29 := by kernel_rfl
@[simp] theorem tz27 : tzero Try.prog 27 = some (.p (.slice none 0 0)) := by kernel_rfl
@[simp] theorem ts28 : tsize Try.prog 28 = some (8, true) := by kernel_rfl
@[simp] theorem tk28 : tkind Try.prog 28 = 0 := by kernel_rfl
@[simp] theorem ti28 : isIface Try.prog 28 = false := by kernel_rfl
@[simp] theorem tstn28 : isString Try.prog 28 = false := by kernel_rfl
@[simp] theorem tbyn28 : isBytes Try.prog 28 = false := by kernel_rfl
@[simp] theorem tf28_0 : tfield Try.prog 28 0 = some (0, 1, false) := by kernel_rfl
@[simp] theorem tf28_1 : tfield Try.prog 28 1 = some (1, 1, false) := by kernel_rfl
@[simp] theorem tf28_2 : tfield Try.prog 28 2 = some (2, 4, true) := by kernel_rfl
@[simp] theorem tf28_3 : tfield Try.prog 28 3 = some (6, 1, false) := by kernel_rfl
@[simp] theorem tf28_4 : tfield Try.prog 28 4 = some (7, 1, false) := by kernel_rfl
@[simp] theorem tp28 : tplaces Try.prog 28 = some [(0, 1), (1, 1), (2, 4), (6, 1), (7, 1)] := by kernel_rfl
@[simp] theorem tz28 : tzero Try.prog 28 = some (.agg [.p (.int .i64 0), .p (.int .i64 0), .p (.int .i64 0), .p (.int .i64 0), .p (.int .i64 0), .p (.int .i64 0), .p (.string ⟨#[]⟩), .p (.slice none 0 0)]) := by kernel_rfl
@[simp] theorem ts29 : tsize Try.prog 29 = some (8, true) := by kernel_rfl
@[simp] theorem tk29 : tkind Try.prog 29 = 0 := by kernel_rfl
@[simp] theorem ti29 : isIface Try.prog 29 = false := by kernel_rfl
@[simp] theorem tstn29 : isString Try.prog 29 = false := by kernel_rfl
@[simp] theorem tbyn29 : isBytes Try.prog 29 = false := by kernel_rfl
@[simp] theorem tf29_0 : tfield Try.prog 29 0 = some (0, 1, false) := by kernel_rfl
@[simp] theorem tf29_1 : tfield Try.prog 29 1 = some (1, 1, false) := by kernel_rfl
@[simp] theorem tf29_2 : tfield Try.prog 29 2 = some (2, 4, true) := by kernel_rfl
@[simp] theorem tf29_3 : tfield Try.prog 29 3 = some (6, 1, false) := by kernel_rfl
@[simp] theorem tf29_4 : tfield Try.prog 29 4 = some (7, 1, false) := by kernel_rfl
@[simp] theorem tp29 : tplaces Try.prog 29 = some [(0, 1), (1, 1), (2, 4), (6, 1), (7, 1)] := by kernel_rfl
@[simp] theorem tz29 : tzero Try.prog 29 = some (.agg [.p (.int .i64 0), .p (.int .i64 0), .p (.int .i64 0), .p (.int .i64 0), .p (.int .i64 0), .p (.int .i64 0), .p (.string ⟨#[]⟩), .p (.slice none 0 0)]) := by kernel_rfl
@[simp] theorem ts30 : tsize Try.prog 30 = some (1, false) := by kernel_rfl
@[simp] theorem tk30 : tkind Try.prog 30 = 4 := by kernel_rfl
@[simp] theorem ti30 : isIface Try.prog 30 = false := by kernel_rfl
@[simp] theorem tby30 : isBytes Try.prog 30 = false := by kernel_rfl
@[simp] theorem tstn30 : isString Try.prog 30 = false := by kernel_rfl
@[simp] theorem tsl30 : isSlice Try.prog 30 = true := by kernel_rfl
@[simp] theorem te30 : telem Try.prog 30 = some (5, true, 40) := by kernel_rfl
@[simp] theorem tet30 : telemT Try.prog 30 = some 86 := by kernel_rfl
@[simp] theorem tz30 : tzero Try.prog 30 = some (.p (.slice none 0 0)) := by kernel_rfl
@[simp] theorem ts33 : tsize Try.prog 33 = some (1, false) := by kernel_rfl
@[simp] theorem tk33 : tkind Try.prog 33 = 4 := by kernel_rfl
@[simp] theorem ti33 : isIface Try.prog 33 = false := by kernel_rfl
@[simp] theorem tby33 : isBytes Try.prog 33 = false := by kernel_rfl
@[simp] theorem tstn33 : isString Try.prog 33 = false := by kernel_rfl
@[simp] theorem tsl33 : isSlice Try.prog 33 = true := by kernel_rfl
@[simp] theorem te33 : telem Try.prog 33 = some (4, true, 32) := by kernel_rfl
@[simp] theorem tet33 : telemT Try.prog 33 = some 49 := by kernel_rfl
@[simp] theorem tz33 : tzero Try.prog 33 = some (.p (.slice none 0 0)) := by kernel_rfl
@[simp] theorem ts34 : tsize Try.prog 34 = some (1, false) := by kernel_rfl
@[simp] theorem tk34 : tkind Try.prog 34 = 4 := by kernel_rfl
@[simp] theorem ti34 : isIface Try.prog 34 = false := by kernel_rfl
@[simp] theorem tby34 : isBytes Try.prog 34 = false := by kernel_rfl
@[simp] theorem tstn34 : isString Try.prog 34 = false := by kernel_rfl
@[simp] theorem tsl34 : isSlice Try.prog 34 = true := by kernel_rfl
@[simp] theorem te34 : telem Try.prog 34 = some (3, true, 24) := by kernel_rfl
@[simp] theorem tet34 : telemT Try.prog 34 = some 81 := by kernel_rfl
@[simp] theorem tz34 : tzero Try.prog 34 = some (.p (.slice none 0 0)) := by kernel_rfl
@[simp] theorem ts37 : tsize Try.prog 37 = some (1, false) := by kernel_rfl
@[simp] theorem tk37 : tkind Try.prog 37 = 0 := by kernel_rfl
@[simp] theorem ti37 : isIface Try.prog 37 = false := by kernel_rfl
@[simp] theorem tl37 : tleaf Try.prog 37 = 2 := by kernel_rfl
@[simp] theorem tu37 : Try.prog.underlying 37 = some (.int .i64) := by kernel_rfl
@[simp] theorem tstn37 : isString Try.prog 37 = false := by kernel_rfl
@[simp] theorem tbyn37 : isBytes Try.prog 37 = false := by kernel_rfl
@[simp] theorem tz37 : tzero Try.prog 37 = some (.p (.int .i64 0)) := by kernel_rfl
@[simp] theorem ts39 : tsize Try.prog 39 = some (1, false) := by kernel_rfl
@[simp] theorem tk39 : tkind Try.prog 39 = 0 := by kernel_rfl
@[simp] theorem ti39 : isIface Try.prog 39 = false := by kernel_rfl
@[simp] theorem tl39 : tleaf Try.prog 39 = 2 := by kernel_rfl
@[simp] theorem tu39 : Try.prog.underlying 39 = some (.int .i64) := by kernel_rfl
@[simp] theorem tstn39 : isString Try.prog 39 = false := by kernel_rfl
@[simp] theorem tbyn39 : isBytes Try.prog 39 = false := by kernel_rfl
@[simp] theorem tz39 : tzero Try.prog 39 = some (.p (.int .i64 0)) := by kernel_rfl
@[simp] theorem ts40 : tsize Try.prog 40 = some (2, true) := by kernel_rfl
@[simp] theorem tk40 : tkind Try.prog 40 = 0 := by kernel_rfl
@[simp] theorem ti40 : isIface Try.prog 40 = false := by kernel_rfl
@[simp] theorem tq40 : teqok Try.prog 40 = true := by kernel_rfl
@[simp] theorem tg40 : tflds Try.prog 40 = some [(3, 0), (39, 1)] := by kernel_rfl
@[simp] theorem tstn40 : isString Try.prog 40 = false := by kernel_rfl
@[simp] theorem tbyn40 : isBytes Try.prog 40 = false := by kernel_rfl
@[simp] theorem tf40_0 : tfield Try.prog 40 0 = some (0, 1, false) := by kernel_rfl
@[simp] theorem tf40_1 : tfield Try.prog 40 1 = some (1, 1, false) := by kernel_rfl
@[simp] theorem tp40 : tplaces Try.prog 40 = some [(0, 1), (1, 1)] := by kernel_rfl
@[simp] theorem tz40 : tzero Try.prog 40 = some (.agg [.p (.int .i64 0), .p (.int .i64 0)]) := by kernel_rfl
@[simp] theorem ts41 : tsize Try.prog 41 = some (2, true) := by kernel_rfl
@[simp] theorem tk41 : tkind Try.prog 41 = 0 := by kernel_rfl
@[simp] theorem ti41 : isIface Try.prog 41 = false := by kernel_rfl
@[simp] theorem tq41 : teqok Try.prog 41 = true := by kernel_rfl
@[simp] theorem tg41 : tflds Try.prog 41 = some [(3, 0), (39, 1)] := by kernel_rfl
@[simp] theorem tstn41 : isString Try.prog 41 = false := by kernel_rfl
@[simp] theorem tbyn41 : isBytes Try.prog 41 = false := by kernel_rfl
@[simp] theorem tf41_0 : tfield Try.prog 41 0 = some (0, 1, false) := by kernel_rfl
@[simp] theorem tf41_1 : tfield Try.prog 41 1 = some (1, 1, false) := by kernel_rfl
@[simp] theorem tp41 : tplaces Try.prog 41 = some [(0, 1), (1, 1)] := by kernel_rfl
@[simp] theorem tz41 : tzero Try.prog 41 = some (.agg [.p (.int .i64 0), .p (.int .i64 0)]) := by kernel_rfl
@[simp] theorem ts44 : tsize Try.prog 44 = some (1, false) := by kernel_rfl
@[simp] theorem tk44 : tkind Try.prog 44 = 4 := by kernel_rfl
@[simp] theorem ti44 : isIface Try.prog 44 = false := by kernel_rfl
@[simp] theorem tby44 : isBytes Try.prog 44 = false := by kernel_rfl
@[simp] theorem tstn44 : isString Try.prog 44 = false := by kernel_rfl
@[simp] theorem tsl44 : isSlice Try.prog 44 = true := by kernel_rfl
@[simp] theorem te44 : telem Try.prog 44 = some (2, true, 16) := by kernel_rfl
@[simp] theorem tet44 : telemT Try.prog 44 = some 24 := by kernel_rfl
@[simp] theorem tz44 : tzero Try.prog 44 = some (.p (.slice none 0 0)) := by kernel_rfl
@[simp] theorem ts48 : tsize Try.prog 48 = some (4, true) := by kernel_rfl
@[simp] theorem tk48 : tkind Try.prog 48 = 0 := by kernel_rfl
@[simp] theorem ti48 : isIface Try.prog 48 = false := by kernel_rfl
@[simp] theorem tq48 : teqok Try.prog 48 = true := by kernel_rfl
@[simp] theorem tg48 : tflds Try.prog 48 = some [(24, 0), (41, 2)] := by kernel_rfl
@[simp] theorem tstn48 : isString Try.prog 48 = false := by kernel_rfl
@[simp] theorem tbyn48 : isBytes Try.prog 48 = false := by kernel_rfl
@[simp] theorem tf48_0 : tfield Try.prog 48 0 = some (0, 2, true) := by kernel_rfl
@[simp] theorem tf48_1 : tfield Try.prog 48 1 = some (2, 2, true) := by kernel_rfl
@[simp] theorem tp48 : tplaces Try.prog 48 = some [(0, 2), (2, 2)] := by kernel_rfl
@[simp] theorem tz48 : tzero Try.prog 48 = some (.agg [.p (.int .i64 0), .p (.int .i64 0), .p (.int .i64 0), .p (.int .i64 0)]) := by kernel_rfl
@[simp] theorem ts49 : tsize Try.prog 49 = some (4, true) := by kernel_rfl
@[simp] theorem tk49 : tkind Try.prog 49 = 0 := by kernel_rfl
@[simp] theorem ti49 : isIface Try.prog 49 = false := by kernel_rfl
@[simp] theorem tq49 : teqok Try.prog 49 = true := by kernel_rfl
@[simp] theorem tg49 : tflds Try.prog 49 = some [(24, 0), (41, 2)] := by kernel_rfl
@[simp] theorem tstn49 : isString Try.prog 49 = false := by kernel_rfl
@[simp] theorem tbyn49 : isBytes Try.prog 49 = false := by kernel_rfl
@[simp] theorem tf49_0 : tfield Try.prog 49 0 = some (0, 2, true) := by kernel_rfl
@[simp] theorem tf49_1 : tfield Try.prog 49 1 = some (2, 2, true) := by kernel_rfl
@[simp] theorem tp49 : tplaces Try.prog 49 = some [(0, 2), (2, 2)] := by kernel_rfl
@[simp] theorem tz49 : tzero Try.prog 49 = some (.agg [.p (.int .i64 0), .p (.int .i64 0), .p (.int .i64 0), .p (.int .i64 0)]) := by kernel_rfl
@[simp] theorem ts52 : tsize Try.prog 52 = some (1, false) := by kernel_rfl
@[simp] theorem tk52 : tkind Try.prog 52 = 4 := by kernel_rfl
@[simp] theorem ti52 : isIface Try.prog 52 = false := by kernel_rfl
@[simp] theorem tby52 : isBytes Try.prog 52 = false := by kernel_rfl
@[simp] theorem tstn52 : isString Try.prog 52 = false := by kernel_rfl
@[simp] theorem tsl52 : isSlice Try.prog 52 = true := by kernel_rfl
@[simp] theorem te52 : telem Try.prog 52 = some (3, true, 32) := by kernel_rfl
@[simp] theorem tet52 : telemT Try.prog 52 = some 59 := by kernel_rfl
@[simp] theorem tz52 : tzero Try.prog 52 = some (.p (.slice none 0 0)) := by kernel_rfl
@[simp] theorem ts54 : tsize Try.prog 54 = some (1, false) := by kernel_rfl
@[simp] theorem tk54 : tkind Try.prog 54 = 2 := by kernel_rfl
@[simp] theorem ti54 : isIface Try.prog 54 = false := by kernel_rfl
@[simp] theorem tstn54 : isString Try.prog 54 = false := by kernel_rfl
@[simp] theorem tbyn54 : isBytes Try.prog 54 = false := by kernel_rfl
@[simp] theorem tz54 : tzero Try.prog 54 = some (.p (.pointer none)) := by kernel_rfl
@[simp] theorem ts56 : tsize Try.prog 56 = some (1, false) := by kernel_rfl
@[simp] theorem tk56 : tkind Try.prog 56 = 4 := by kernel_rfl
@[simp] theorem ti56 : isIface Try.prog 56 = false := by kernel_rfl
@[simp] theorem tby56 : isBytes Try.prog 56 = false := by kernel_rfl
@[simp] theorem tstn56 : isString Try.prog 56 = false := by kernel_rfl
@[simp] theorem tsl56 : isSlice Try.prog 56 = true := by kernel_rfl
@[simp] theorem te56 : telem Try.prog 56 = some (2, true, 24) := by kernel_rfl
@[simp] theorem tet56 : telemT Try.prog 56 = some 106 := by kernel_rfl
@[simp] theorem tz56 : tzero Try.prog 56 = some (.p (.slice none 0 0)) := by kernel_rfl
@[simp] theorem ts57 : tsize Try.prog 57 = some (1, false) := by kernel_rfl
@[simp] theorem tk57 : tkind Try.prog 57 = 0 := by kernel_rfl
@[simp] theorem ti57 : isIface Try.prog 57 = false := by kernel_rfl
@[simp] theorem tl57 : tleaf Try.prog 57 = 2 := by kernel_rfl
@[simp] theorem tu57 : Try.prog.underlying 57 = some (.int .i64) := by kernel_rfl
@[simp] theorem tstn57 : isString Try.prog 57 = false := by kernel_rfl
@[simp] theorem tbyn57 : isBytes Try.prog 57 = false := by kernel_rfl
@[simp] theorem tz57 : tzero Try.prog 57 = some (.p (.int .i64 0)) := by kernel_rfl
@[simp] theorem ts58 : tsize Try.prog 58 = some (3, true) := by kernel_rfl
@[simp] theorem tk58 : tkind Try.prog 58 = 0 := by kernel_rfl
@[simp] theorem ti58 : isIface Try.prog 58 = false := by kernel_rfl
@[simp] theorem tq58 : teqok Try.prog 58 = true := by kernel_rfl
@[simp] theorem tg58 : tflds Try.prog 58 = some [(5, 0), (9, 1), (3, 2)] := by kernel_rfl
@[simp] theorem tstn58 : isString Try.prog 58 = false := by kernel_rfl
@[simp] theorem tbyn58 : isBytes Try.prog 58 = false := by kernel_rfl
@[simp] theorem tf58_0 : tfield Try.prog 58 0 = some (0, 1, false) := by kernel_rfl
@[simp] theorem tf58_1 : tfield Try.prog 58 1 = some (1, 1, false) := by kernel_rfl
@[simp] theorem tf58_2 : tfield Try.prog 58 2 = some (2, 1, false) := by kernel_rfl
@[simp] theorem tp58 : tplaces Try.prog 58 = some [(0, 1), (1, 1), (2, 1)] := by kernel_rfl
@[simp] theorem tz58 : tzero Try.prog 58 = some (.agg [.p (.int .u8 0), .p (.string ⟨#[]⟩), .p (.int .i64 0)]) := by kernel_rfl
@[simp] theorem ts59 : tsize Try.prog 59 = some (3, true) := by kernel_rfl
@[simp] theorem tk59 : tkind Try.prog 59 = 0 := by kernel_rfl
@[simp] theorem ti59 : isIface Try.prog 59 = false := by kernel_rfl
@[simp] theorem tq59 : teqok Try.prog 59 = true := by kernel_rfl
@[simp] theorem tg59 : tflds Try.prog 59 = some [(5, 0), (9, 1), (3, 2)] := by kernel_rfl
@[simp] theorem tstn59 : isString Try.prog 59 = false := by kernel_rfl
@[simp] theorem tbyn59 : isBytes Try.prog 59 = false := by kernel_rfl
@[simp] theorem tf59_0 : tfield Try.prog 59 0 = some (0, 1, false) := by kernel_rfl
@[simp] theorem tf59_1 : tfield Try.prog 59 1 = some (1, 1, false) := by kernel_rfl
@[simp] theorem tf59_2 : tfield Try.prog 59 2 = some (2, 1, false) := by kernel_rfl
@[simp] theorem tp59 : tplaces Try.prog 59 = some [(0, 1), (1, 1), (2, 1)] := by kernel_rfl
@[simp] theorem tz59 : tzero Try.prog 59 = some (.agg [.p (.int .u8 0), .p (.string ⟨#[]⟩), .p (.int .i64 0)]) := by kernel_rfl
@[simp] theorem ts70 : tsize Try.prog 70 = some (1, false) := by kernel_rfl
@[simp] theorem tk70 : tkind Try.prog 70 = 4 := by kernel_rfl
@[simp] theorem ti70 : isIface Try.prog 70 = false := by kernel_rfl
@[simp] theorem tby70 : isBytes Try.prog 70 = false := by kernel_rfl
@[simp] theorem tstn70 : isString Try.prog 70 = false := by kernel_rfl
@[simp] theorem tsl70 : isSlice Try.prog 70 = true := by kernel_rfl
@[simp] theorem te70 : telem Try.prog 70 = some (1, false, 16) := by kernel_rfl
@[simp] theorem tet70 : telemT Try.prog 70 = some 9 := by kernel_rfl
@[simp] theorem tz70 : tzero Try.prog 70 = some (.p (.slice none 0 0)) := by kernel_rfl
@[simp] theorem ts72 : tsize Try.prog 72 = some (1, false) := by kernel_rfl
@[simp] theorem tk72 : tkind Try.prog 72 = 4 := by kernel_rfl
@[simp] theorem ti72 : isIface Try.prog 72 = false := by kernel_rfl
@[simp] theorem tby72 : isBytes Try.prog 72 = false := by kernel_rfl
@[simp] theorem tstn72 : isString Try.prog 72 = false := by kernel_rfl
@[simp] theorem tsl72 : isSlice Try.prog 72 = true := by kernel_rfl
@[simp] theorem te72 : telem Try.prog 72 = some (1, false, 8) := by kernel_rfl
@[simp] theorem tet72 : telemT Try.prog 72 = some 3 := by kernel_rfl
@[simp] theorem tz72 : tzero Try.prog 72 = some (.p (.slice none 0 0)) := by kernel_rfl
@[simp] theorem ts80 : tsize Try.prog 80 = some (3, true) := by kernel_rfl
@[simp] theorem tk80 : tkind Try.prog 80 = 0 := by kernel_rfl
@[simp] theorem ti80 : isIface Try.prog 80 = false := by kernel_rfl
@[simp] theorem tq80 : teqok Try.prog 80 = true := by kernel_rfl
@[simp] theorem tg80 : tflds Try.prog 80 = some [(24, 0), (37, 2)] := by kernel_rfl
@[simp] theorem tstn80 : isString Try.prog 80 = false := by kernel_rfl
@[simp] theorem tbyn80 : isBytes Try.prog 80 = false := by kernel_rfl
@[simp] theorem tf80_0 : tfield Try.prog 80 0 = some (0, 2, true) := by kernel_rfl
@[simp] theorem tf80_1 : tfield Try.prog 80 1 = some (2, 1, false) := by kernel_rfl
@[simp] theorem tp80 : tplaces Try.prog 80 = some [(0, 2), (2, 1)] := by kernel_rfl
@[simp] theorem tz80 : tzero Try.prog 80 = some (.agg [.p (.int .i64 0), .p (.int .i64 0), .p (.int .i64 0)]) := by kernel_rfl
@[simp] theorem ts81 : tsize Try.prog 81 = some (3, true) := by kernel_rfl
@[simp] theorem tk81 : tkind Try.prog 81 = 0 := by kernel_rfl
@[simp] theorem ti81 : isIface Try.prog 81 = false := by kernel_rfl
@[simp] theorem tq81 : teqok Try.prog 81 = true := by kernel_rfl
@[simp] theorem tg81 : tflds Try.prog 81 = some [(24, 0), (37, 2)] := by kernel_rfl
@[simp] theorem tstn81 : isString Try.prog 81 = false := by kernel_rfl
@[simp] theorem tbyn81 : isBytes Try.prog 81 = false := by kernel_rfl
@[simp] theorem tf81_0 : tfield Try.prog 81 0 = some (0, 2, true) := by kernel_rfl
@[simp] theorem tf81_1 : tfield Try.prog 81 1 = some (2, 1, false) := by kernel_rfl
@[simp] theorem tp81 : tplaces Try.prog 81 = some [(0, 2), (2, 1)] := by kernel_rfl
@[simp] theorem tz81 : tzero Try.prog 81 = some (.agg [.p (.int .i64 0), .p (.int .i64 0), .p (.int .i64 0)]) := by kernel_rfl
@[simp] theorem ts84 : tsize Try.prog 84 = some (1, false) := by kernel_rfl
@[simp] theorem tk84 : tkind Try.prog 84 = 0 := by kernel_rfl
@[simp] theorem ti84 : isIface Try.prog 84 = false := by kernel_rfl
@[simp] theorem tl84 : tleaf Try.prog 84 = 2 := by kernel_rfl
@[simp] theorem tu84 : Try.prog.underlying 84 = some (.int .u64) := by kernel_rfl
@[simp] theorem tstn84 : isString Try.prog 84 = false := by kernel_rfl
@[simp] theorem tbyn84 : isBytes Try.prog 84 = false := by kernel_rfl
@[simp] theorem tz84 : tzero Try.prog 84 = some (.p (.int .u64 0)) := by kernel_rfl
@[simp] theorem ts85 : tsize Try.prog 85 = some (5, true) := by kernel_rfl
@[simp] theorem tk85 : tkind Try.prog 85 = 0 := by kernel_rfl
@[simp] theorem ti85 : isIface Try.prog 85 = false := by kernel_rfl
@[simp] theorem tq85 : teqok Try.prog 85 = true := by kernel_rfl
@[simp] theorem tg85 : tflds Try.prog 85 = some [(24, 0), (5, 2), (3, 3), (84, 4)] := by kernel_rfl
@[simp] theorem tstn85 : isString Try.prog 85 = false := by kernel_rfl
@[simp] theorem tbyn85 : isBytes Try.prog 85 = false := by kernel_rfl
@[simp] theorem tf85_0 : tfield Try.prog 85 0 = some (0, 2, true) := by kernel_rfl
@[simp] theorem tf85_1 : tfield Try.prog 85 1 = some (2, 1, false) := by kernel_rfl
@[simp] theorem tf85_2 : tfield Try.prog 85 2 = some (3, 1, false) := by kernel_rfl
@[simp] theorem tf85_3 : tfield Try.prog 85 3 = some (4, 1, false) := by kernel_rfl
@[simp] theorem tp85 : tplaces Try.prog 85 = some [(0, 2), (2, 1), (3, 1), (4, 1)] := by kernel_rfl
@[simp] theorem tz85 : tzero Try.prog 85 = some (.agg [.p (.int .i64 0), .p (.int .i64 0), .p (.int .u8 0), .p (.int .i64 0), .p (.int .u64 0)]) := by kernel_rfl
@[simp] theorem ts86 : tsize Try.prog 86 = some (5, true) := by kernel_rfl
@[simp] theorem tk86 : tkind Try.prog 86 = 0 := by kernel_rfl
@[simp] theorem ti86 : isIface Try.prog 86 = false := by kernel_rfl
@[simp] theorem tq86 : teqok Try.prog 86 = true := by kernel_rfl
@[simp] theorem tg86 : tflds Try.prog 86 = some [(24, 0), (5, 2), (3, 3), (84, 4)] := by kernel_rfl
@[simp] theorem tstn86 : isString Try.prog 86 = false := by kernel_rfl
@[simp] theorem tbyn86 : isBytes Try.prog 86 = false := by kernel_rfl
@[simp] theorem tf86_0 : tfield Try.prog 86 0 = some (0, 2, true) := by kernel_rfl
@[simp] theorem tf86_1 : tfield Try.prog 86 1 = some (2, 1, false) := by kernel_rfl
@[simp] theorem tf86_2 : tfield Try.prog 86 2 = some (3, 1, false) := by kernel_rfl
@[simp] theorem tf86_3 : tfield Try.prog 86 3 = some (4, 1, false) := by kernel_rfl
@[simp] theorem tp86 : tplaces Try.prog 86 = some [(0, 2), (2, 1), (3, 1), (4, 1)] := by kernel_rfl
@[simp] theorem tz86 : tzero Try.prog 86 = some (.agg [.p (.int .i64 0), .p (.int .i64 0), .p (.int .u8 0), .p (.int .i64 0), .p (.int .u64 0)]) := by kernel_rfl
@[simp] theorem ts89 : tsize Try.prog 89 = some (1, false) := by kernel_rfl
@[simp] theorem tk89 : tkind Try.prog 89 = 5 := by kernel_rfl
@[simp] theorem ti89 : isIface Try.prog 89 = false := by kernel_rfl
@[simp] theorem tstn89 : isString Try.prog 89 = false := by kernel_rfl
@[simp] theorem tbyn89 : isBytes Try.prog 89 = false := by kernel_rfl
@[simp] theorem tmap89 : isMapT Try.prog 89 = true := by kernel_rfl
@[simp] theorem tz89 : tzero Try.prog 89 = some (.p (.map none)) := by kernel_rfl
@[simp] theorem ts90 : tsize Try.prog 90 = some (1, false) := by kernel_rfl
@[simp] theorem tk90 : tkind Try.prog 90 = 5 := by kernel_rfl
@[simp] theorem ti90 : isIface Try.prog 90 = false := by kernel_rfl
@[simp] theorem tstn90 : isString Try.prog 90 = false := by kernel_rfl
@[simp] theorem tbyn90 : isBytes Try.prog 90 = false := by kernel_rfl
@[simp] theorem tmap90 : isMapT Try.prog 90 = true := by kernel_rfl
@[simp] theorem tz90 : tzero Try.prog 90 = some (.p (.map none)) := by kernel_rfl
@[simp] theorem ts98 : tsize Try.prog 98 = some (1, false) := by kernel_rfl
@[simp] theorem tk98 : tkind Try.prog 98 = 5 := by kernel_rfl
@[simp] theorem ti98 : isIface Try.prog 98 = false := by kernel_rfl
@[simp] theorem tstn98 : isString Try.prog 98 = false := by kernel_rfl
@[simp] theorem tbyn98 : isBytes Try.prog 98 = false := by kernel_rfl
@[simp] theorem tmap98 : isMapT Try.prog 98 = true := by kernel_rfl
@[simp] theorem tz98 : tzero Try.prog 98 = some (.p (.map none)) := by kernel_rfl
@[simp] theorem ts99 : tsize Try.prog 99 = some (1, false) := by kernel_rfl
@[simp] theorem tk99 : tkind Try.prog 99 = 5 := by kernel_rfl
@[simp] theorem ti99 : isIface Try.prog 99 = false := by kernel_rfl
@[simp] theorem tstn99 : isString Try.prog 99 = false := by kernel_rfl
@[simp] theorem tbyn99 : isBytes Try.prog 99 = false := by kernel_rfl
@[simp] theorem tmap99 : isMapT Try.prog 99 = true := by kernel_rfl
@[simp] theorem tz99 : tzero Try.prog 99 = some (.p (.map none)) := by kernel_rfl
@[simp] theorem ts101 : tsize Try.prog 101 = some (1, false) := by kernel_rfl
@[simp] theorem tk101 : tkind Try.prog 101 = 5 := by kernel_rfl
@[simp] theorem ti101 : isIface Try.prog 101 = false := by kernel_rfl
@[simp] theorem tstn101 : isString Try.prog 101 = false := by kernel_rfl
@[simp] theorem tbyn101 : isBytes Try.prog 101 = false := by kernel_rfl
@[simp] theorem tmap101 : isMapT Try.prog 101 = true := by kernel_rfl
@[simp] theorem tz101 : tzero Try.prog 101 = some (.p (.map none)) := by kernel_rfl
@[simp] theorem ts102 : tsize Try.prog 102 = some (1, true) := by kernel_rfl
@[simp] theorem tk102 : tkind Try.prog 102 = 0 := by kernel_rfl
@[simp] theorem ti102 : isIface Try.prog 102 = false := by kernel_rfl
@[simp] theorem tstn102 : isString Try.prog 102 = false := by kernel_rfl
@[simp] theorem tbyn102 : isBytes Try.prog 102 = false := by kernel_rfl
@[simp] theorem tf102_0 : tfield Try.prog 102 0 = some (0, 1, false) := by kernel_rfl
@[simp] theorem tp102 : tplaces Try.prog 102 = some [(0, 1)] := by kernel_rfl
@[simp] theorem tz102 : tzero Try.prog 102 = some (.agg [.p (.map none)]) := by kernel_rfl
@[simp] theorem ts103 : tsize Try.prog 103 = some (1, true) := by kernel_rfl
@[simp] theorem tk103 : tkind Try.prog 103 = 0 := by kernel_rfl
@[simp] theorem ti103 : isIface Try.prog 103 = false := by kernel_rfl
@[simp] theorem tstn103 : isString Try.prog 103 = false := by kernel_rfl
@[simp] theorem tbyn103 : isBytes Try.prog 103 = false := by kernel_rfl
@[simp] theorem tf103_0 : tfield Try.prog 103 0 = some (0, 1, false) := by kernel_rfl
@[simp] theorem tp103 : tplaces Try.prog 103 = some [(0, 1)] := by kernel_rfl
@[simp] theorem tz103 : tzero Try.prog 103 = some (.agg [.p (.map none)]) := by kernel_rfl
@[simp] theorem ts105 : tsize Try.prog 105 = some (2, true) := by kernel_rfl
@[simp] theorem tk105 : tkind Try.prog 105 = 0 := by kernel_rfl
@[simp] theorem ti105 : isIface Try.prog 105 = false := by kernel_rfl
@[simp] theorem tq105 : teqok Try.prog 105 = true := by kernel_rfl
@[simp] theorem tg105 : tflds Try.prog 105 = some [(9, 0), (3, 1)] := by kernel_rfl
@[simp] theorem tstn105 : isString Try.prog 105 = false := by kernel_rfl
@[simp] theorem tbyn105 : isBytes Try.prog 105 = false := by kernel_rfl
@[simp] theorem tf105_0 : tfield Try.prog 105 0 = some (0, 1, false) := by kernel_rfl
@[simp] theorem tf105_1 : tfield Try.prog 105 1 = some (1, 1, false) := by kernel_rfl
@[simp] theorem tp105 : tplaces Try.prog 105 = some [(0, 1), (1, 1)] := by kernel_rfl
@[simp] theorem tz105 : tzero Try.prog 105 = some (.agg [.p (.string ⟨#[]⟩), .p (.int .i64 0)]) := by kernel_rfl
@[simp] theorem ts106 : tsize Try.prog 106 = some (2, true) := by kernel_rfl
@[simp] theorem tk106 : tkind Try.prog 106 = 0 := by kernel_rfl
@[simp] theorem ti106 : isIface Try.prog 106 = false := by kernel_rfl
@[simp] theorem tq106 : teqok Try.prog 106 = true := by kernel_rfl
@[simp] theorem tg106 : tflds Try.prog 106 = some [(9, 0), (3, 1)] := by kernel_rfl
@[simp] theorem tstn106 : isString Try.prog 106 = false := by kernel_rfl
@[simp] theorem tbyn106 : isBytes Try.prog 106 = false := by kernel_rfl
@[simp] theorem tf106_0 : tfield Try.prog 106 0 = some (0, 1, false) := by kernel_rfl
@[simp] theorem tf106_1 : tfield Try.prog 106 1 = some (1, 1, false) := by kernel_rfl
@[simp] theorem tp106 : tplaces Try.prog 106 = some [(0, 1), (1, 1)] := by kernel_rfl
@[simp] theorem tz106 : tzero Try.prog 106 = some (.agg [.p (.string ⟨#[]⟩), .p (.int .i64 0)]) := by kernel_rfl
@[simp] theorem ts112 : tsize Try.prog 112 = some (1, false) := by kernel_rfl
@[simp] theorem tk112 : tkind Try.prog 112 = 4 := by kernel_rfl
@[simp] theorem ti112 : isIface Try.prog 112 = false := by kernel_rfl
@[simp] theorem tby112 : isBytes Try.prog 112 = false := by kernel_rfl
@[simp] theorem tstn112 : isString Try.prog 112 = false := by kernel_rfl
@[simp] theorem tsl112 : isSlice Try.prog 112 = true := by kernel_rfl
@[simp] theorem te112 : telem Try.prog 112 = some (6, true, 56) := by kernel_rfl
@[simp] theorem tet112 : telemT Try.prog 112 = some 135 := by kernel_rfl
@[simp] theorem tz112 : tzero Try.prog 112 = some (.p (.slice none 0 0)) := by kernel_rfl
@[simp] theorem ts115 : tsize Try.prog 115 = some (1, false) := by kernel_rfl
@[simp] theorem tk115 : tkind Try.prog 115 = 2 := by kernel_rfl
@[simp] theorem ti115 : isIface Try.prog 115 = false := by kernel_rfl
@[simp] theorem tstn115 : isString Try.prog 115 = false := by kernel_rfl
@[simp] theorem tbyn115 : isBytes Try.prog 115 = false := by kernel_rfl
@[simp] theorem tz115 : tzero Try.prog 115 = some (.p (.pointer none)) := by kernel_rfl
@[simp] theorem ts116 : tsize Try.prog 116 = some (5, true) := by kernel_rfl
@[simp] theorem tk116 : tkind Try.prog 116 = 0 := by kernel_rfl
@[simp] theorem ti116 : isIface Try.prog 116 = false := by kernel_rfl
@[simp] theorem tstn116 : isString Try.prog 116 = false := by kernel_rfl
@[simp] theorem tbyn116 : isBytes Try.prog 116 = false := by kernel_rfl
@[simp] theorem tf116_0 : tfield Try.prog 116 0 = some (0, 1, false) := by kernel_rfl
@[simp] theorem tf116_1 : tfield Try.prog 116 1 = some (1, 1, false) := by kernel_rfl
@[simp] theorem tf116_2 : tfield Try.prog 116 2 = some (2, 1, false) := by kernel_rfl
@[simp] theorem tf116_3 : tfield Try.prog 116 3 = some (3, 1, false) := by kernel_rfl
@[simp] theorem tf116_4 : tfield Try.prog 116 4 = some (4, 1, false) := by kernel_rfl
@[simp] theorem tp116 : tplaces Try.prog 116 = some [(0, 1), (1, 1), (2, 1), (3, 1), (4, 1)] := by kernel_rfl
@[simp] theorem tz116 : tzero Try.prog 116 = some (.agg [.p (.slice none 0 0), .p (.int .i64 0), .p (.int .i64 0), .p (.bool false), .p (.int .i64 0)]) := by kernel_rfl
@[simp] theorem ts117 : tsize Try.prog 117 = some (5, true) := by kernel_rfl
@[simp] theorem tk117 : tkind Try.prog 117 = 0 := by kernel_rfl
@[simp] theorem ti117 : isIface Try.prog 117 = false := by kernel_rfl
@[simp] theorem tstn117 : isString Try.prog 117 = false := by kernel_rfl
@[simp] theorem tbyn117 : isBytes Try.prog 117 = false := by kernel_rfl
@[simp] theorem tf117_0 : tfield Try.prog 117 0 = some (0, 1, false) := by kernel_rfl
@[simp] theorem tf117_1 : tfield Try.prog 117 1 = some (1, 1, false) := by kernel_rfl
@[simp] theorem tf117_2 : tfield Try.prog 117 2 = some (2, 1, false) := by kernel_rfl
@[simp] theorem tf117_3 : tfield Try.prog 117 3 = some (3, 1, false) := by kernel_rfl
@[simp] theorem tf117_4 : tfield Try.prog 117 4 = some (4, 1, false) := by kernel_rfl
@[simp] theorem tp117 : tplaces Try.prog 117 = some [(0, 1), (1, 1), (2, 1), (3, 1), (4, 1)] := by kernel_rfl
@[simp] theorem tz117 : tzero Try.prog 117 = some (.agg [.p (.slice none 0 0), .p (.int .i64 0), .p (.int .i64 0), .p (.bool false), .p (.int .i64 0)]) := by kernel_rfl
@[simp] theorem ts119 : tsize Try.prog 119 = some (1, false) := by kernel_rfl
@[simp] theorem tk119 : tkind Try.prog 119 = 4 := by kernel_rfl
@[simp] theorem ti119 : isIface Try.prog 119 = false := by kernel_rfl
@[simp] theorem tby119 : isBytes Try.prog 119 = false := by kernel_rfl
@[simp] theorem tstn119 : isString Try.prog 119 = false := by kernel_rfl
@[simp] theorem tsl119 : isSlice Try.prog 119 = true := by kernel_rfl
@[simp] theorem te119 : telem Try.prog 119 = some (1, false, 8) := by kernel_rfl
@[simp] theorem tet119 : telemT Try.prog 119 = some 37 := by kernel_rfl
@[simp] theorem tz119 : tzero Try.prog 119 = some (.p (.slice none 0 0)) := by kernel_rfl
@[simp] theorem ts131 : tsize Try.prog 131 = some (1, false) := by kernel_rfl
@[simp] theorem tk131 : tkind Try.prog 131 = 5 := by kernel_rfl
@[simp] theorem ti131 : isIface Try.prog 131 = false := by kernel_rfl
@[simp] theorem tstn131 : isString Try.prog 131 = false := by kernel_rfl
@[simp] theorem tbyn131 : isBytes Try.prog 131 = false := by kernel_rfl
@[simp] theorem tmap131 : isMapT Try.prog 131 = true := by kernel_rfl
@[simp] theorem tz131 : tzero Try.prog 131 = some (.p (.map none)) := by kernel_rfl
@[simp] theorem ts134 : tsize Try.prog 134 = some (6, true) := by kernel_rfl
@[simp] theorem tk134 : tkind Try.prog 134 = 0 := by kernel_rfl
@[simp] theorem ti134 : isIface Try.prog 134 = false := by kernel_rfl
@[simp] theorem tq134 : teqok Try.prog 134 = true := by kernel_rfl
@[simp] theorem tg134 : tflds Try.prog 134 = some [(3, 0), (3, 1), (24, 2), (9, 4), (3, 5)] := by kernel_rfl
@[simp] theorem tstn134 : isString Try.prog 134 = false := by kernel_rfl
@[simp] theorem tbyn134 : isBytes Try.prog 134 = false := by kernel_rfl
@[simp] theorem tf134_0 : tfield Try.prog 134 0 = some (0, 1, false) := by kernel_rfl
@[simp] theorem tf134_1 : tfield Try.prog 134 1 = some (1, 1, false) := by kernel_rfl
@[simp] theorem tf134_2 : tfield Try.prog 134 2 = some (2, 2, true) := by kernel_rfl
@[simp] theorem tf134_3 : tfield Try.prog 134 3 = some (4, 1, false) := by kernel_rfl
@[simp] theorem tf134_4 : tfield Try.prog 134 4 = some (5, 1, false) := by kernel_rfl
@[simp] theorem tp134 : tplaces Try.prog 134 = some [(0, 1), (1, 1), (2, 2), (4, 1), (5, 1)] := by kernel_rfl
@[simp] theorem tz134 : tzero Try.prog 134 = some (.agg [.p (.int .i64 0), .p (.int .i64 0), .p (.int .i64 0), .p (.int .i64 0), .p (.string ⟨#[]⟩), .p (.int .i64 0)]) := by kernel_rfl
@[simp] theorem ts135 : tsize Try.prog 135 = some (6, true) := by kernel_rfl
@[simp] theorem tk135 : tkind Try.prog 135 = 0 := by kernel_rfl
@[simp] theorem ti135 : isIface Try.prog 135 = false := by kernel_rfl
@[simp] theorem tq135 : teqok Try.prog 135 = true := by kernel_rfl
@[simp] theorem tg135 : tflds Try.prog 135 = some [(3, 0), (3, 1), (24, 2), (9, 4), (3, 5)] := by kernel_rfl
@[simp] theorem tstn135 : isString Try.prog 135 = false := by kernel_rfl
@[simp] theorem tbyn135 : isBytes Try.prog 135 = false := by kernel_rfl
@[simp] theorem tf135_0 : tfield Try.prog 135 0 = some (0, 1, false) := by kernel_rfl
@[simp] theorem tf135_1 : tfield Try.prog 135 1 = some (1, 1, false) := by kernel_rfl
@[simp] theorem tf135_2 : tfield Try.prog 135 2 = some (2, 2, true) := by kernel_rfl
@[simp] theorem tf135_3 : tfield Try.prog 135 3 = some (4, 1, false) := by kernel_rfl
@[simp] theorem tf135_4 : tfield Try.prog 135 4 = some (5, 1, false) := by kernel_rfl
@[simp] theorem tp135 : tplaces Try.prog 135 = some [(0, 1), (1, 1), (2, 2), (4, 1), (5, 1)] := by kernel_rfl
@[simp] theorem tz135 : tzero Try.prog 135 = some (.agg [.p (.int .i64 0), .p (.int .i64 0), .p (.int .i64 0), .p (.int .i64 0), .p (.string ⟨#[]⟩), .p (.int .i64 0)]) := by kernel_rfl
@[simp] theorem ts144 : tsize Try.prog 144 = some (1, false) := by kernel_rfl
@[simp] theorem tk144 : tkind Try.prog 144 = 4 := by kernel_rfl
@[simp] theorem ti144 : isIface Try.prog 144 = false := by kernel_rfl
@[simp] theorem tby144 : isBytes Try.prog 144 = false := by kernel_rfl
@[simp] theorem tstn144 : isString Try.prog 144 = false := by kernel_rfl
@[simp] theorem tsl144 : isSlice Try.prog 144 = true := by kernel_rfl
@[simp] theorem te144 : telem Try.prog 144 = some (2, true, 16) := by kernel_rfl
@[simp] theorem tet144 : telemT Try.prog 144 = some 41 := by kernel_rfl
@[simp] theorem tz144 : tzero Try.prog 144 = some (.p (.slice none 0 0)) := by kernel_rfl
@[simp] theorem ts153 : tsize Try.prog 153 = some (1, false) := by kernel_rfl
@[simp] theorem tk153 : tkind Try.prog 153 = 5 := by kernel_rfl
@[simp] theorem ti153 : isIface Try.prog 153 = false := by kernel_rfl
@[simp] theorem tstn153 : isString Try.prog 153 = false := by kernel_rfl
@[simp] theorem tbyn153 : isBytes Try.prog 153 = false := by kernel_rfl
@[simp] theorem tmap153 : isMapT Try.prog 153 = true := by kernel_rfl
@[simp] theorem tz153 : tzero Try.prog 153 = some (.p (.map none)) := by kernel_rfl
@[simp] theorem ts156 : tsize Try.prog 156 = some (1, false) := by kernel_rfl
@[simp] theorem ts160 : tsize Try.prog 160 = some (1, false) := by kernel_rfl
@[simp] theorem tk160 : tkind Try.prog 160 = 0 := by kernel_rfl
@[simp] theorem ti160 : isIface Try.prog 160 = false := by kernel_rfl
@[simp] theorem tl160 : tleaf Try.prog 160 = 2 := by kernel_rfl
@[simp] theorem tu160 : Try.prog.underlying 160 = some (.int .u64) := by kernel_rfl
@[simp] theorem tstn160 : isString Try.prog 160 = false := by kernel_rfl
@[simp] theorem tbyn160 : isBytes Try.prog 160 = false := by kernel_rfl
@[simp] theorem tz160 : tzero Try.prog 160 = some (.p (.int .u64 0)) := by kernel_rfl
@[simp] theorem ts170 : tsize Try.prog 170 = some (1, false) := by kernel_rfl
@[simp] theorem ts174 : tsize Try.prog 174 = some (1, false) := by kernel_rfl
@[simp] theorem ts178 : tsize Try.prog 178 = some (1, false) := by kernel_rfl
@[simp] theorem tk178 : tkind Try.prog 178 = 0 := by kernel_rfl
@[simp] theorem ti178 : isIface Try.prog 178 = false := by kernel_rfl
@[simp] theorem tl178 : tleaf Try.prog 178 = 2 := by kernel_rfl
@[simp] theorem tu178 : Try.prog.underlying 178 = some (.int .i64) := by kernel_rfl
@[simp] theorem tstn178 : isString Try.prog 178 = false := by kernel_rfl
@[simp] theorem tbyn178 : isBytes Try.prog 178 = false := by kernel_rfl
@[simp] theorem tz178 : tzero Try.prog 178 = some (.p (.int .i64 0)) := by kernel_rfl
@[simp] theorem ts186 : tsize Try.prog 186 = some (1, false) := by kernel_rfl
@[simp] theorem tk186 : tkind Try.prog 186 = 0 := by kernel_rfl
@[simp] theorem ti186 : isIface Try.prog 186 = false := by kernel_rfl
@[simp] theorem tl186 : tleaf Try.prog 186 = 2 := by kernel_rfl
@[simp] theorem tu186 : Try.prog.underlying 186 = some (.int .u32) := by kernel_rfl
@[simp] theorem tstn186 : isString Try.prog 186 = false := by kernel_rfl
@[simp] theorem tbyn186 : isBytes Try.prog 186 = false := by kernel_rfl
@[simp] theorem tz186 : tzero Try.prog 186 = some (.p (.int .u32 0)) := by kernel_rfl
@[simp] theorem ts191 : tsize Try.prog 191 = some (3, true) := by kernel_rfl
@[simp] theorem tk191 : tkind Try.prog 191 = 0 := by kernel_rfl
@[simp] theorem ti191 : isIface Try.prog 191 = false := by kernel_rfl
@[simp] theorem tstn191 : isString Try.prog 191 = false := by kernel_rfl
@[simp] theorem tbyn191 : isBytes Try.prog 191 = false := by kernel_rfl
@[simp] theorem tp191 : tplaces Try.prog 191 = some [(0, 1), (1, 1), (2, 1)] := by kernel_rfl
@[simp] theorem ta191 : tarr Try.prog 191 = some (3, 1, false) := by kernel_rfl
@[simp] theorem tz191 : tzero Try.prog 191 = some (.agg [.p (.slice none 0 0), .p (.slice none 0 0), .p (.slice none 0 0)]) := by kernel_rfl
@[simp] theorem ts198 : tsize Try.prog 198 = some (1, false) := by kernel_rfl
@[simp] theorem tk198 : tkind Try.prog 198 = 0 := by kernel_rfl
@[simp] theorem ti198 : isIface Try.prog 198 = false := by kernel_rfl
@[simp] theorem tl198 : tleaf Try.prog 198 = 2 := by kernel_rfl
@[simp] theorem tu198 : Try.prog.underlying 198 = some (.int .u64) := by kernel_rfl
@[simp] theorem tstn198 : isString Try.prog 198 = false := by kernel_rfl
@[simp] theorem tbyn198 : isBytes Try.prog 198 = false := by kernel_rfl
@[simp] theorem tz198 : tzero Try.prog 198 = some (.p (.int .u64 0)) := by kernel_rfl
@[simp] theorem ts202 : tsize Try.prog 202 = some (1, false) := by kernel_rfl
@[simp] theorem tk202 : tkind Try.prog 202 = 2 := by kernel_rfl
@[simp] theorem ti202 : isIface Try.prog 202 = false := by kernel_rfl
@[simp] theorem tstn202 : isString Try.prog 202 = false := by kernel_rfl
@[simp] theorem tbyn202 : isBytes Try.prog 202 = false := by kernel_rfl
@[simp] theorem tz202 : tzero Try.prog 202 = some (.p (.pointer none)) := by kernel_rfl
@[simp] theorem ts208 : tsize Try.prog 208 = some (1, false) := by kernel_rfl
@[simp] theorem tk208 : tkind Try.prog 208 = 4 := by kernel_rfl
@[simp] theorem ti208 : isIface Try.prog 208 = false := by kernel_rfl
@[simp] theorem tby208 : isBytes Try.prog 208 = false := by kernel_rfl
@[simp] theorem tstn208 : isString Try.prog 208 = false := by kernel_rfl
@[simp] theorem tsl208 : isSlice Try.prog 208 = true := by kernel_rfl
@[simp] theorem te208 : telem Try.prog 208 = some (1, false, 1) := by kernel_rfl
@[simp] theorem tet208 : telemT Try.prog 208 = some 4 := by kernel_rfl
@[simp] theorem tz208 : tzero Try.prog 208 = some (.p (.slice none 0 0)) := by kernel_rfl
@[simp] theorem ts210 : tsize Try.prog 210 = some (1, false) := by kernel_rfl
@[simp] theorem tk210 : tkind Try.prog 210 = 2 := by kernel_rfl
@[simp] theorem ti210 : isIface Try.prog 210 = false := by kernel_rfl
@[simp] theorem tstn210 : isString Try.prog 210 = false := by kernel_rfl
@[simp] theorem tbyn210 : isBytes Try.prog 210 = false := by kernel_rfl
@[simp] theorem tz210 : tzero Try.prog 210 = some (.p (.pointer none)) := by kernel_rfl
@[simp] theorem ts214 : tsize Try.prog 214 = some (1, false) := by kernel_rfl
@[simp] theorem tk214 : tkind Try.prog 214 = 4 := by kernel_rfl
@[simp] theorem ti214 : isIface Try.prog 214 = false := by kernel_rfl
@[simp] theorem tby214 : isBytes Try.prog 214 = true := by kernel_rfl
@[simp] theorem tstn214 : isString Try.prog 214 = false := by kernel_rfl
@[simp] theorem tsl214 : isSlice Try.prog 214 = true := by kernel_rfl
@[simp] theorem te214 : telem Try.prog 214 = some (1, false, 1) := by kernel_rfl
@[simp] theorem tet214 : telemT Try.prog 214 = some 5 := by kernel_rfl
@[simp] theorem tz214 : tzero Try.prog 214 = some (.p (.slice none 0 0)) := by kernel_rfl
@[simp] theorem ts224 : tsize Try.prog 224 = some (1, false) := by kernel_rfl
@[simp] theorem tk224 : tkind Try.prog 224 = 2 := by kernel_rfl
@[simp] theorem ti224 : isIface Try.prog 224 = false := by kernel_rfl
@[simp] theorem tstn224 : isString Try.prog 224 = false := by kernel_rfl
@[simp] theorem tbyn224 : isBytes Try.prog 224 = false := by kernel_rfl
@[simp] theorem tz224 : tzero Try.prog 224 = some (.p (.pointer none)) := by kernel_rfl
attribute [simp] Try.results6 Try.results18 Try.results19 Try.results20 Try.results21 Try.results23 Try.results25 Try.results28 Try.results30 Try.results31 Try.results49 Try.results50 Try.results72 Try.results73 Try.results74 Try.results98 Try.results99 Try.results137 Try.results138 Try.results139 Try.results140 Try.results141 Try.results142 Try.results144 Try.results145 Try.results162 Try.results163 Try.results165 Try.results166 Try.results173
end Go.AL
/-! What all contracts use. -/
namespace Go.AL
open Go.Proofs
set_option linter.unusedSimpArgs false
set_option linter.unusedVariables false
attribute [simp] keep frm
theorem draws : Try.prog.follows .mixedOrders = true := by kernel_rfl
/-- The number, if so. -/
def z (b : Bool) (n : Int) : Int := if b = true then n else 0
@[simp] theorem z_true (n : Int) : z true n = n := rfl
@[simp] theorem z_false (n : Int) : z false n = 0 := rfl
def In64 (a : Int) : Prop := -9223372036854775808 ≤ a ∧ a ≤ 9223372036854775807
theorem In64.of_wf {a : Int} (h : (Lit.int .i64 a).wf = true) : In64 a := by
  simp only [Lit.wf, IntKind.min, IntKind.max, IntKind.signed, IntKind.bits, Bool.and_eq_true, decide_eq_true_eq, if_true] at h
  unfold In64; omega
end Go.AL
/-! What a value of a type is. -/
namespace Go.AL
open Go.Proofs
set_option linter.unusedVariables false
set_option linter.unusedSimpArgs false
variable {P : Program} {n : Nat} {t : TypeId} {x : AV}
theorem has_int {k : IntKind} (h : hasF P n t x) (hu : P.underlying t = some (.int k)) : ∃ z, x = .p (.int k z) ∧ (Lit.int k z).wf = true := by
  cases n with
  | zero => exact h.elim
  | succ n => unfold hasF at h; rw [hu] at h; exact h
theorem has_str (h : hasF P n t x) (hu : P.underlying t = some .string) : ∃ s : ByteArray, x = .p (.string s) ∧ s.size ≤ 9223372036854775807 := by
  cases n with
  | zero => exact h.elim
  | succ n => unfold hasF at h; rw [hu] at h; exact h
theorem has_struct {fs : Array Field} (h : hasF P n t x) (hu : P.underlying t = some (.struct fs)) : ∃ m cs, n = m + 1 ∧ x = .agg cs ∧ cs.length = P.cellsOf t ∧ ∀ f ∈ fs.toList, ∃ y, hasF P m f.type y ∧ y.cells = (cs.drop f.offset).take (P.cellsOf f.type) := by
  cases n with
  | zero => exact h.elim
  | succ n => unfold hasF at h; rw [hu] at h; obtain ⟨cs, h1, h2, h3⟩ := h; exact ⟨n, cs, rfl, h1, h2, h3⟩
theorem has_slice {e : TypeId} (h : hasF P n t x) (hu : P.underlying t = some (.slice e)) : ∃ m xs, n = m + 1 ∧ x = .vsl xs ∧ xs.length ≤ 9223372036854775807 ∧ ∀ y ∈ xs, hasF P m e y := by
  cases n with
  | zero => exact h.elim
  | succ n => unfold hasF at h; rw [hu] at h; obtain ⟨cs, h1, h2, h3⟩ := h; exact ⟨n, cs, rfl, h1, h2, h3⟩
theorem has_i64 (h : hasF P n t x) (hu : P.underlying t = some (.int .i64)) : ∃ z, x = vi z ∧ In64 z := by
  obtain ⟨z, rfl, hw⟩ := has_int h hu
  exact ⟨z, rfl, .of_wf hw⟩
/-- A list of values that are so. -/
theorem list_of {α : Type} {q : AV → Prop} {f : α → AV} {r : α → Prop} (hf : ∀ y, q y → ∃ a, y = f a ∧ r a) : ∀ xs : List AV, (∀ y ∈ xs, q y) → ∃ l : List α, xs = l.map f ∧ ∀ a ∈ l, r a
  | [], _ => ⟨[], rfl, by simp⟩
  | y :: xs, h => by
    obtain ⟨a, rfl, ha⟩ := hf y (h y List.mem_cons_self)
    obtain ⟨l, rfl, hl⟩ := list_of hf xs fun y hy => h y (List.mem_cons_of_mem _ hy)
    exact ⟨a :: l, rfl, by simpa using ⟨ha, hl⟩⟩
end Go.AL
