/- Parts of the proof of LexerBlanks: the logic, contracts, plain laws. -/
import Derived.Test.YtfpjojjgoelckaaDoorZLexerBlanks1
import Derived.Test.YtfpjojjgoelckaaDoorProg
import Derived.IntWalk
/-! What the logic wants to know of the types. -/
namespace Go.AL
open Go.Proofs
@[simp] theorem ts2 : tsize Tryd.prog 2 = some (1, false) := by kernel_rfl
@[simp] theorem tk2 : tkind Tryd.prog 2 = 0 := by kernel_rfl
@[simp] theorem ti2 : isIface Tryd.prog 2 = false := by kernel_rfl
@[simp] theorem tl2 : tleaf Tryd.prog 2 = 2 := by kernel_rfl
@[simp] theorem tu2 : Tryd.prog.underlying 2 = some (.int .i64) := by kernel_rfl
@[simp] theorem tstn2 : isString Tryd.prog 2 = false := by kernel_rfl
@[simp] theorem tbyn2 : isBytes Tryd.prog 2 = false := by kernel_rfl
@[simp] theorem tz2 : tzero Tryd.prog 2 = some (.p (.int .i64 0)) := by kernel_rfl
@[simp] theorem ts3 : tsize Tryd.prog 3 = some (1, false) := by kernel_rfl
@[simp] theorem tk3 : tkind Tryd.prog 3 = 0 := by kernel_rfl
@[simp] theorem ti3 : isIface Tryd.prog 3 = false := by kernel_rfl
@[simp] theorem tl3 : tleaf Tryd.prog 3 = 2 := by kernel_rfl
@[simp] theorem tu3 : Tryd.prog.underlying 3 = some (.int .i64) := by kernel_rfl
@[simp] theorem tstn3 : isString Tryd.prog 3 = false := by kernel_rfl
@[simp] theorem tbyn3 : isBytes Tryd.prog 3 = false := by kernel_rfl
@[simp] theorem tz3 : tzero Tryd.prog 3 = some (.p (.int .i64 0)) := by kernel_rfl
@[simp] theorem ts4 : tsize Tryd.prog 4 = some (1, false) := by kernel_rfl
@[simp] theorem tk4 : tkind Tryd.prog 4 = 1 := by kernel_rfl
@[simp] theorem ti4 : isIface Tryd.prog 4 = false := by kernel_rfl
@[simp] theorem tl4 : tleaf Tryd.prog 4 = 1 := by kernel_rfl
@[simp] theorem tu4 : Tryd.prog.underlying 4 = some .bool := by kernel_rfl
@[simp] theorem tstn4 : isString Tryd.prog 4 = false := by kernel_rfl
@[simp] theorem tbyn4 : isBytes Tryd.prog 4 = false := by kernel_rfl
@[simp] theorem tz4 : tzero Tryd.prog 4 = some (.p (.bool false)) := by kernel_rfl
@[simp] theorem ts5 : tsize Tryd.prog 5 = some (1, false) := by kernel_rfl
@[simp] theorem tk5 : tkind Tryd.prog 5 = 0 := by kernel_rfl
@[simp] theorem ti5 : isIface Tryd.prog 5 = false := by kernel_rfl
@[simp] theorem tl5 : tleaf Tryd.prog 5 = 2 := by kernel_rfl
@[simp] theorem tu5 : Tryd.prog.underlying 5 = some (.int .u8) := by kernel_rfl
@[simp] theorem tstn5 : isString Tryd.prog 5 = false := by kernel_rfl
@[simp] theorem tbyn5 : isBytes Tryd.prog 5 = false := by kernel_rfl
@[simp] theorem tz5 : tzero Tryd.prog 5 = some (.p (.int .u8 0)) := by kernel_rfl
@[simp] theorem ts9 : tsize Tryd.prog 9 = some (1, false) := by kernel_rfl
@[simp] theorem tk9 : tkind Tryd.prog 9 = 0 := by kernel_rfl
@[simp] theorem ti9 : isIface Tryd.prog 9 = false := by kernel_rfl
@[simp] theorem tl9 : tleaf Tryd.prog 9 = 3 := by kernel_rfl
@[simp] theorem tstr9 : isString Tryd.prog 9 = true := by kernel_rfl
@[simp] theorem tu9 : Tryd.prog.underlying 9 = some .string := by kernel_rfl
@[simp] theorem tbyn9 : isBytes Tryd.prog 9 = false := by kernel_rfl
@[simp] theorem tz9 : tzero Tryd.prog 9 = some (.p (.string ⟨#[]⟩)) := by kernel_rfl
@[simp] theorem ts12 : tsize Tryd.prog 12 = some (1, false) := by kernel_rfl
@[simp] theorem tk12 : tkind Tryd.prog 12 = 0 := by kernel_rfl
@[simp] theorem ti12 : isIface Tryd.prog 12 = false := by kernel_rfl
@[simp] theorem tl12 : tleaf Tryd.prog 12 = 2 := by kernel_rfl
@[simp] theorem tu12 : Tryd.prog.underlying 12 = some (.int .u64) := by kernel_rfl
@[simp] theorem tstn12 : isString Tryd.prog 12 = false := by kernel_rfl
@[simp] theorem tbyn12 : isBytes Tryd.prog 12 = false := by kernel_rfl
@[simp] theorem tz12 : tzero Tryd.prog 12 = some (.p (.int .u64 0)) := by kernel_rfl
@[simp] theorem ts13 : tsize Tryd.prog 13 = some (2, true) := by kernel_rfl
@[simp] theorem tk13 : tkind Tryd.prog 13 = 0 := by kernel_rfl
@[simp] theorem ti13 : isIface Tryd.prog 13 = false := by kernel_rfl
@[simp] theorem tstn13 : isString Tryd.prog 13 = false := by kernel_rfl
@[simp] theorem tbyn13 : isBytes Tryd.prog 13 = false := by kernel_rfl
@[simp] theorem tf13_0 : tfield Tryd.prog 13 0 = some (0, 1, false) := by kernel_rfl
@[simp] theorem tf13_1 : tfield Tryd.prog 13 1 = some (1, 1, false) := by kernel_rfl
@[simp] theorem tp13 : tplaces Tryd.prog 13 = some [(0, 1), (1, 1)] := by kernel_rfl
@[simp] theorem tz13 : tzero Tryd.prog 13 = some (.agg [.p (.string ⟨#[]⟩), .p (.int .u64 0)]) := by kernel_rfl
@[simp] theorem ts20 : tsize Tryd.prog 20 = some (1, false) := by kernel_rfl
@[simp] theorem tk20 : tkind Tryd.prog 20 = 3 := by kernel_rfl
@[simp] theorem ti20 : isIface Tryd.prog 20 = true := by kernel_rfl
@[simp] theorem tstn20 : isString Tryd.prog 20 = false := by kernel_rfl
@[simp] theorem tbyn20 : isBytes Tryd.prog 20 = false := by kernel_rfl
@[simp] theorem tz20 : tzero Tryd.prog 20 = some (.p (.nilIface)) := by kernel_rfl
@[simp] theorem ts21 : tsize Tryd.prog 21 = some (1, false) := by kernel_rfl
@[simp] theorem tk21 : tkind Tryd.prog 21 = 0 := by kernel_rfl
@[simp] theorem ti21 : isIface Tryd.prog 21 = false := by kernel_rfl
@[simp] theorem tl21 : tleaf Tryd.prog 21 = 2 := by kernel_rfl
@[simp] theorem tu21 : Tryd.prog.underlying 21 = some (.int .i32) := by kernel_rfl
@[simp] theorem tstn21 : isString Tryd.prog 21 = false := by kernel_rfl
@[simp] theorem tbyn21 : isBytes Tryd.prog 21 = false := by kernel_rfl
@[simp] theorem tz21 : tzero Tryd.prog 21 = some (.p (.int .i32 0)) := by kernel_rfl
@[simp] theorem ts23 : tsize Tryd.prog 23 = some (1, false) := by kernel_rfl
@[simp] theorem tk23 : tkind Tryd.prog 23 = 4 := by kernel_rfl
@[simp] theorem ti23 : isIface Tryd.prog 23 = false := by kernel_rfl
@[simp] theorem tby23 : isBytes Tryd.prog 23 = false := by kernel_rfl
@[simp] theorem tstn23 : isString Tryd.prog 23 = false := by kernel_rfl
@[simp] theorem tsl23 : isSlice Tryd.prog 23 = true := by kernel_rfl
@[simp] theorem te23 : telem Tryd.prog 23 = some (6, true, 56) := by kernel_rfl
@[simp] theorem tet23 : telemT Tryd.prog 23 = some 37 := by kernel_rfl
@[simp] theorem tz23 : tzero Tryd.prog 23 = some (.p (.slice none 0 0)) := by kernel_rfl
@[simp] theorem ts24 : tsize Tryd.prog 24 = some (1, false) := by kernel_rfl
@[simp] theorem tk24 : tkind Tryd.prog 24 = 0 := by kernel_rfl
@[simp] theorem ti24 : isIface Tryd.prog 24 = false := by kernel_rfl
@[simp] theorem tl24 : tleaf Tryd.prog 24 = 2 := by kernel_rfl
@[simp] theorem tu24 : Tryd.prog.underlying 24 = some (.int .i64) := by kernel_rfl
@[simp] theorem tstn24 : isString Tryd.prog 24 = false := by kernel_rfl
@[simp] theorem tbyn24 : isBytes Tryd.prog 24 = false := by kernel_rfl
@[simp] theorem tz24 : tzero Tryd.prog 24 = some (.p (.int .i64 0)) := by kernel_rfl
@[simp] theorem ts27 : tsize Tryd.prog 27 = some (1, false) := by kernel_rfl
@[simp] theorem tk27 : tkind Tryd.prog 27 = 4 := by kernel_rfl
@[simp] theorem ti27 : isIface Tryd.prog 27 = false := by kernel_rfl
@[simp] theorem tby27 : isBytes Tryd.prog 27 = false := by kernel_rfl
@[simp] theorem tstn27 : isString Tryd.prog 27 = false := by kernel_rfl
@[simp] theorem tsl27 : isSlice Tryd.prog 27 = true := by kernel_rfl
@[simp] theorem te27 : telem Tryd.prog 27 = some (6, true, 56) := by kernel_rfl
@[simp] theorem tet27 : telemT Tryd.prog 27 = some 43 := by kernel_rfl
@[simp] theorem tz27 : tzero Tryd.prog 27 = some (.p (.slice none 0 0)) := by kernel_rfl
@[simp] theorem ts33 : tsize Tryd.prog 33 = some (1, false) := by kernel_rfl
@[simp] theorem tk33 : tkind Tryd.prog 33 = 0 := by kernel_rfl
@[simp] theorem ti33 : isIface Tryd.prog 33 = false := by kernel_rfl
@[simp] theorem tl33 : tleaf Tryd.prog 33 = 2 := by kernel_rfl
@[simp] theorem tu33 : Tryd.prog.underlying 33 = some (.int .i64) := by kernel_rfl
@[simp] theorem tstn33 : isString Tryd.prog 33 = false := by kernel_rfl
@[simp] theorem tbyn33 : isBytes Tryd.prog 33 = false := by kernel_rfl
@[simp] theorem tz33 : tzero Tryd.prog 33 = some (.p (.int .i64 0)) := by kernel_rfl
@[simp] theorem ts34 : tsize Tryd.prog 34 = some (2, true) := by kernel_rfl
@[simp] theorem tk34 : tkind Tryd.prog 34 = 0 := by kernel_rfl
@[simp] theorem ti34 : isIface Tryd.prog 34 = false := by kernel_rfl
@[simp] theorem tq34 : teqok Tryd.prog 34 = true := by kernel_rfl
@[simp] theorem tg34 : tflds Tryd.prog 34 = some [(3, 0), (3, 1)] := by kernel_rfl
@[simp] theorem tstn34 : isString Tryd.prog 34 = false := by kernel_rfl
@[simp] theorem tbyn34 : isBytes Tryd.prog 34 = false := by kernel_rfl
@[simp] theorem tf34_0 : tfield Tryd.prog 34 0 = some (0, 1, false) := by kernel_rfl
@[simp] theorem tf34_1 : tfield Tryd.prog 34 1 = some (1, 1, false) := by kernel_rfl
@[simp] theorem tp34 : tplaces Tryd.prog 34 = some [(0, 1), (1, 1)] := by kernel_rfl
@[simp] theorem tz34 : tzero Tryd.prog 34 = some (.agg [.p (.int .i64 0), .p (.int .i64 0)]) := by kernel_rfl
@[simp] theorem ts35 : tsize Tryd.prog 35 = some (2, true) := by kernel_rfl
@[simp] theorem tk35 : tkind Tryd.prog 35 = 0 := by kernel_rfl
@[simp] theorem ti35 : isIface Tryd.prog 35 = false := by kernel_rfl
@[simp] theorem tq35 : teqok Tryd.prog 35 = true := by kernel_rfl
@[simp] theorem tg35 : tflds Tryd.prog 35 = some [(3, 0), (3, 1)] := by kernel_rfl
@[simp] theorem tstn35 : isString Tryd.prog 35 = false := by kernel_rfl
@[simp] theorem tbyn35 : isBytes Tryd.prog 35 = false := by kernel_rfl
@[simp] theorem tf35_0 : tfield Tryd.prog 35 0 = some (0, 1, false) := by kernel_rfl
@[simp] theorem tf35_1 : tfield Tryd.prog 35 1 = some (1, 1, false) := by kernel_rfl
@[simp] theorem tp35 : tplaces Tryd.prog 35 = some [(0, 1), (1, 1)] := by kernel_rfl
@[simp] theorem tz35 : tzero Tryd.prog 35 = some (.agg [.p (.int .i64 0), .p (.int .i64 0)]) := by kernel_rfl
@[simp] theorem ts36 : tsize Tryd.prog 36 = some (6, true) := by kernel_rfl
@[simp] theorem tk36 : tkind Tryd.prog 36 = 0 := by kernel_rfl
@[simp] theorem ti36 : isIface Tryd.prog 36 = false := by kernel_rfl
@[simp] theorem tq36 : teqok Tryd.prog 36 = true := by kernel_rfl
@[simp] theorem tg36 : tflds Tryd.prog 36 = some [(33, 0), (3, 1), (35, 2), (9, 4), (3, 5)] := by kernel_rfl
@[simp] theorem tstn36 : isString Tryd.prog 36 = false := by kernel_rfl
@[simp] theorem tbyn36 : isBytes Tryd.prog 36 = false := by kernel_rfl
@[simp] theorem tf36_0 : tfield Tryd.prog 36 0 = some (0, 1, false) := by kernel_rfl
@[simp] theorem tf36_1 : tfield Tryd.prog 36 1 = some (1, 1, false) := by kernel_rfl
@[simp] theorem tf36_2 : tfield Tryd.prog 36 2 = some (2, 2, true) := by kernel_rfl
@[simp] theorem tf36_3 : tfield Tryd.prog 36 3 = some (4, 1, false) := by kernel_rfl
@[simp] theorem tf36_4 : tfield Tryd.prog 36 4 = some (5, 1, false) := by kernel_rfl
@[simp] theorem tp36 : tplaces Tryd.prog 36 = some [(0, 1), (1, 1), (2, 2), (4, 1), (5, 1)] := by kernel_rfl
@[simp] theorem tz36 : tzero Tryd.prog 36 = some (.agg [.p (.int .i64 0), .p (.int .i64 0), .p (.int .i64 0), .p (.int .i64 0), .p (.string ⟨#[]⟩), .p (.int .i64 0)]) := by kernel_rfl
@[simp] theorem ts37 : tsize Tryd.prog 37 = some (6, true) := by kernel_rfl
@[simp] theorem tk37 : tkind Tryd.prog 37 = 0 := by kernel_rfl
@[simp] theorem ti37 : isIface Tryd.prog 37 = false := by kernel_rfl
@[simp] theorem tq37 : teqok Tryd.prog 37 = true := by kernel_rfl
@[simp] theorem tg37 : tflds Tryd.prog 37 = some [(33, 0), (3, 1), (35, 2), (9, 4), (3, 5)] := by kernel_rfl
@[simp] theorem tstn37 : isString Tryd.prog 37 = false := by kernel_rfl
@[simp] theorem tbyn37 : isBytes Tryd.prog 37 = false := by kernel_rfl
@[simp] theorem tf37_0 : tfield Tryd.prog 37 0 = some (0, 1, false) := by kernel_rfl
@[simp] theorem tf37_1 : tfield Tryd.prog 37 1 = some (1, 1, false) := by kernel_rfl
@[simp] theorem tf37_2 : tfield Tryd.prog 37 2 = some (2, 2, true) := by kernel_rfl
@[simp] theorem tf37_3 : tfield Tryd.prog 37 3 = some (4, 1, false) := by kernel_rfl
@[simp] theorem tf37_4 : tfield Tryd.prog 37 4 = some (5, 1, false) := by kernel_rfl
@[simp] theorem tp37 : tplaces Tryd.prog 37 = some [(0, 1), (1, 1), (2, 2), (4, 1), (5, 1)] := by kernel_rfl
@[simp] theorem tz37 : tzero Tryd.prog 37 = some (.agg [.p (.int .i64 0), .p (.int .i64 0), .p (.int .i64 0), .p (.int .i64 0), .p (.string ⟨#[]⟩), .p (.int .i64 0)]) := by kernel_rfl
@[simp] theorem ts42 : tsize Tryd.prog 42 = some (6, true) := by kernel_rfl
@[simp] theorem tk42 : tkind Tryd.prog 42 = 0 := by kernel_rfl
@[simp] theorem ti42 : isIface Tryd.prog 42 = false := by kernel_rfl
@[simp] theorem tq42 : teqok Tryd.prog 42 = true := by kernel_rfl
@[simp] theorem tg42 : tflds Tryd.prog 42 = some [(3, 0), (3, 1), (35, 2), (9, 4), (3, 5)] := by kernel_rfl
@[simp] theorem tstn42 : isString Tryd.prog 42 = false := by kernel_rfl
@[simp] theorem tbyn42 : isBytes Tryd.prog 42 = false := by kernel_rfl
@[simp] theorem tf42_0 : tfield Tryd.prog 42 0 = some (0, 1, false) := by kernel_rfl
@[simp] theorem tf42_1 : tfield Tryd.prog 42 1 = some (1, 1, false) := by kernel_rfl
@[simp] theorem tf42_2 : tfield Tryd.prog 42 2 = some (2, 2, true) := by kernel_rfl
@[simp] theorem tf42_3 : tfield Tryd.prog 42 3 = some (4, 1, false) := by kernel_rfl
@[simp] theorem tf42_4 : tfield Tryd.prog 42 4 = some (5, 1, false) := by kernel_rfl
@[simp] theorem tp42 : tplaces Tryd.prog 42 = some [(0, 1), (1, 1), (2, 2), (4, 1), (5, 1)] := by kernel_rfl
@[simp] theorem tz42 : tzero Tryd.prog 42 = some (.agg [.p (.int .i64 0), .p (.int .i64 0), .p (.int .i64 0), .p (.int .i64 0), .p (.string ⟨#[]⟩), .p (.int .i64 0)]) := by kernel_rfl
@[simp] theorem ts43 : tsize Tryd.prog 43 = some (6, true) := by kernel_rfl
@[simp] theorem tk43 : tkind Tryd.prog 43 = 0 := by kernel_rfl
@[simp] theorem ti43 : isIface Tryd.prog 43 = false := by kernel_rfl
@[simp] theorem tq43 : teqok Tryd.prog 43 = true := by kernel_rfl
@[simp] theorem tg43 : tflds Tryd.prog 43 = some [(3, 0), (3, 1), (35, 2), (9, 4), (3, 5)] := by kernel_rfl
@[simp] theorem tstn43 : isString Tryd.prog 43 = false := by kernel_rfl
@[simp] theorem tbyn43 : isBytes Tryd.prog 43 = false := by kernel_rfl
@[simp] theorem tf43_0 : tfield Tryd.prog 43 0 = some (0, 1, false) := by kernel_rfl
@[simp] theorem tf43_1 : tfield Tryd.prog 43 1 = some (1, 1, false) := by kernel_rfl
@[simp] theorem tf43_2 : tfield Tryd.prog 43 2 = some (2, 2, true) := by kernel_rfl
@[simp] theorem tf43_3 : tfield Tryd.prog 43 3 = some (4, 1, false) := by kernel_rfl
@[simp] theorem tf43_4 : tfield Tryd.prog 43 4 = some (5, 1, false) := by kernel_rfl
@[simp] theorem tp43 : tplaces Tryd.prog 43 = some [(0, 1), (1, 1), (2, 2), (4, 1), (5, 1)] := by kernel_rfl
@[simp] theorem tz43 : tzero Tryd.prog 43 = some (.agg [.p (.int .i64 0), .p (.int .i64 0), .p (.int .i64 0), .p (.int .i64 0), .p (.string ⟨#[]⟩), .p (.int .i64 0)]) := by kernel_rfl
@[simp] theorem ts47 : tsize Tryd.prog 47 = some (256, true) := by kernel_rfl
@[simp] theorem tk47 : tkind Tryd.prog 47 = 0 := by kernel_rfl
@[simp] theorem ti47 : isIface Tryd.prog 47 = false := by kernel_rfl
@[simp] theorem tstn47 : isString Tryd.prog 47 = false := by kernel_rfl
@[simp] theorem tbyn47 : isBytes Tryd.prog 47 = false := by kernel_rfl
@[simp] theorem ta47 : tarr Tryd.prog 47 = some (256, 1, false) := by kernel_rfl
@[simp] theorem ts65 : tsize Tryd.prog 65 = some (1, false) := by kernel_rfl
@[simp] theorem tk65 : tkind Tryd.prog 65 = 3 := by kernel_rfl
@[simp] theorem ti65 : isIface Tryd.prog 65 = true := by kernel_rfl
@[simp] theorem tstn65 : isString Tryd.prog 65 = false := by kernel_rfl
@[simp] theorem tbyn65 : isBytes Tryd.prog 65 = false := by kernel_rfl
@[simp] theorem tz65 : tzero Tryd.prog 65 = some (.p (.nilIface)) := by kernel_rfl
@[simp] theorem ts66 : tsize Tryd.prog 66 = some (1, false) := by kernel_rfl
@[simp] theorem tk66 : tkind Tryd.prog 66 = 3 := by kernel_rfl
@[simp] theorem ti66 : isIface Tryd.prog 66 = true := by kernel_rfl
@[simp] theorem tstn66 : isString Tryd.prog 66 = false := by kernel_rfl
@[simp] theorem tbyn66 : isBytes Tryd.prog 66 = false := by kernel_rfl
@[simp] theorem tz66 : tzero Tryd.prog 66 = some (.p (.nilIface)) := by kernel_rfl
@[simp] theorem ts76 : tsize Tryd.prog 76 = some (256, true) := by kernel_rfl
@[simp] theorem tk76 : tkind Tryd.prog 76 = 0 := by kernel_rfl
@[simp] theorem ti76 : isIface Tryd.prog 76 = false := by kernel_rfl
@[simp] theorem tstn76 : isString Tryd.prog 76 = false := by kernel_rfl
@[simp] theorem tbyn76 : isBytes Tryd.prog 76 = false := by kernel_rfl
@[simp] theorem ta76 : tarr Tryd.prog 76 = some (256, 1, false) := by kernel_rfl
@[simp] theorem ts77 : tsize Tryd.prog 77 = some (1, false) := by kernel_rfl
@[simp] theorem tk77 : tkind Tryd.prog 77 = 0 := by kernel_rfl
@[simp] theorem ti77 : isIface Tryd.prog 77 = false := by kernel_rfl
@[simp] theorem tl77 : tleaf Tryd.prog 77 = 2 := by kernel_rfl
@[simp] theorem tu77 : Tryd.prog.underlying 77 = some (.int .u64) := by kernel_rfl
@[simp] theorem tstn77 : isString Tryd.prog 77 = false := by kernel_rfl
@[simp] theorem tbyn77 : isBytes Tryd.prog 77 = false := by kernel_rfl
@[simp] theorem tz77 : tzero Tryd.prog 77 = some (.p (.int .u64 0)) := by kernel_rfl
@[simp] theorem ts78 : tsize Tryd.prog 78 = some (2, true) := by kernel_rfl
@[simp] theorem tk78 : tkind Tryd.prog 78 = 0 := by kernel_rfl
@[simp] theorem ti78 : isIface Tryd.prog 78 = false := by kernel_rfl
@[simp] theorem tstn78 : isString Tryd.prog 78 = false := by kernel_rfl
@[simp] theorem tbyn78 : isBytes Tryd.prog 78 = false := by kernel_rfl
@[simp] theorem tf78_0 : tfield Tryd.prog 78 0 = some (0, 1, false) := by kernel_rfl
@[simp] theorem tf78_1 : tfield Tryd.prog 78 1 = some (1, 1, false) := by kernel_rfl
@[simp] theorem tp78 : tplaces Tryd.prog 78 = some [(0, 1), (1, 1)] := by kernel_rfl
@[simp] theorem tz78 : tzero Tryd.prog 78 = some (.agg [.p (.int .u8 0), .p (.int .u8 0)]) := by kernel_rfl
@[simp] theorem ts84 : tsize Tryd.prog 84 = some (1, false) := by kernel_rfl
@[simp] theorem tk84 : tkind Tryd.prog 84 = 0 := by kernel_rfl
@[simp] theorem ti84 : isIface Tryd.prog 84 = false := by kernel_rfl
@[simp] theorem tl84 : tleaf Tryd.prog 84 = 2 := by kernel_rfl
@[simp] theorem tu84 : Tryd.prog.underlying 84 = some (.int .i64) := by kernel_rfl
@[simp] theorem tstn84 : isString Tryd.prog 84 = false := by kernel_rfl
@[simp] theorem tbyn84 : isBytes Tryd.prog 84 = false := by kernel_rfl
@[simp] theorem tz84 : tzero Tryd.prog 84 = some (.p (.int .i64 0)) := by kernel_rfl
@[simp] theorem ts85 : tsize Tryd.prog 85 = some (1, false) := by kernel_rfl
@[simp] theorem tk85 : tkind Tryd.prog 85 = 4 := by kernel_rfl
@[simp] theorem ti85 : isIface Tryd.prog 85 = false := by kernel_rfl
@[simp] theorem tby85 : isBytes Tryd.prog 85 = true := by kernel_rfl
@[simp] theorem tstn85 : isString Tryd.prog 85 = false := by kernel_rfl
@[simp] theorem tsl85 : isSlice Tryd.prog 85 = true := by kernel_rfl
@[simp] theorem te85 : telem Tryd.prog 85 = some (1, false, 1) := by kernel_rfl
@[simp] theorem tet85 : telemT Tryd.prog 85 = some 5 := by kernel_rfl
@[simp] theorem tz85 : tzero Tryd.prog 85 = some (.p (.slice none 0 0)) := by kernel_rfl
@[simp] theorem ts88 : tsize Tryd.prog 88 = some (1, false) := by kernel_rfl
@[simp] theorem tk88 : tkind Tryd.prog 88 = 2 := by kernel_rfl
@[simp] theorem ti88 : isIface Tryd.prog 88 = false := by kernel_rfl
@[simp] theorem tstn88 : isString Tryd.prog 88 = false := by kernel_rfl
@[simp] theorem tbyn88 : isBytes Tryd.prog 88 = false := by kernel_rfl
@[simp] theorem tz88 : tzero Tryd.prog 88 = some (.p (.pointer none)) := by kernel_rfl
@[simp] theorem ts92 : tsize Tryd.prog 92 = some (1, false) := by kernel_rfl
@[simp] theorem tk92 : tkind Tryd.prog 92 = 0 := by kernel_rfl
@[simp] theorem ti92 : isIface Tryd.prog 92 = false := by kernel_rfl
@[simp] theorem tl92 : tleaf Tryd.prog 92 = 2 := by kernel_rfl
@[simp] theorem tu92 : Tryd.prog.underlying 92 = some (.int .u64) := by kernel_rfl
@[simp] theorem tstn92 : isString Tryd.prog 92 = false := by kernel_rfl
@[simp] theorem tbyn92 : isBytes Tryd.prog 92 = false := by kernel_rfl
@[simp] theorem tz92 : tzero Tryd.prog 92 = some (.p (.int .u64 0)) := by kernel_rfl
@[simp] theorem ts97 : tsize Tryd.prog 97 = some (3, true) := by kernel_rfl
@[simp] theorem tk97 : tkind Tryd.prog 97 = 0 := by kernel_rfl
@[simp] theorem ti97 : isIface Tryd.prog 97 = false := by kernel_rfl
@[simp] theorem tstn97 : isString Tryd.prog 97 = false := by kernel_rfl
@[simp] theorem tbyn97 : isBytes Tryd.prog 97 = false := by kernel_rfl
@[simp] theorem tf97_0 : tfield Tryd.prog 97 0 = some (0, 1, false) := by kernel_rfl
@[simp] theorem tf97_1 : tfield Tryd.prog 97 1 = some (1, 1, false) := by kernel_rfl
@[simp] theorem tf97_2 : tfield Tryd.prog 97 2 = some (2, 1, false) := by kernel_rfl
@[simp] theorem tp97 : tplaces Tryd.prog 97 = some [(0, 1), (1, 1), (2, 1)] := by kernel_rfl
@[simp] theorem tz97 : tzero Tryd.prog 97 = some (.agg [.p (.string ⟨#[]⟩), .p (.string ⟨#[]⟩), .p (.nilIface)]) := by kernel_rfl
@[simp] theorem ts98 : tsize Tryd.prog 98 = some (3, true) := by kernel_rfl
@[simp] theorem tk98 : tkind Tryd.prog 98 = 0 := by kernel_rfl
@[simp] theorem ti98 : isIface Tryd.prog 98 = false := by kernel_rfl
@[simp] theorem tstn98 : isString Tryd.prog 98 = false := by kernel_rfl
@[simp] theorem tbyn98 : isBytes Tryd.prog 98 = false := by kernel_rfl
@[simp] theorem tf98_0 : tfield Tryd.prog 98 0 = some (0, 1, false) := by kernel_rfl
@[simp] theorem tf98_1 : tfield Tryd.prog 98 1 = some (1, 1, false) := by kernel_rfl
@[simp] theorem tf98_2 : tfield Tryd.prog 98 2 = some (2, 1, false) := by kernel_rfl
@[simp] theorem tp98 : tplaces Tryd.prog 98 = some [(0, 1), (1, 1), (2, 1)] := by kernel_rfl
@[simp] theorem tz98 : tzero Tryd.prog 98 = some (.agg [.p (.string ⟨#[]⟩), .p (.string ⟨#[]⟩), .p (.nilIface)]) := by kernel_rfl
@[simp] theorem ts101 : tsize Tryd.prog 101 = some (1, false) := by kernel_rfl
@[simp] theorem tk101 : tkind Tryd.prog 101 = 2 := by kernel_rfl
@[simp] theorem ti101 : isIface Tryd.prog 101 = false := by kernel_rfl
@[simp] theorem tstn101 : isString Tryd.prog 101 = false := by kernel_rfl
@[simp] theorem tbyn101 : isBytes Tryd.prog 101 = false := by kernel_rfl
@[simp] theorem tz101 : tzero Tryd.prog 101 = some (.p (.pointer none)) := by kernel_rfl
@[simp] theorem ts103 : tsize Tryd.prog 103 = some (1, true) := by kernel_rfl
@[simp] theorem tk103 : tkind Tryd.prog 103 = 0 := by kernel_rfl
@[simp] theorem ti103 : isIface Tryd.prog 103 = false := by kernel_rfl
@[simp] theorem tstn103 : isString Tryd.prog 103 = false := by kernel_rfl
@[simp] theorem tbyn103 : isBytes Tryd.prog 103 = false := by kernel_rfl
@[simp] theorem tf103_0 : tfield Tryd.prog 103 0 = some (0, 1, false) := by kernel_rfl
@[simp] theorem tp103 : tplaces Tryd.prog 103 = some [(0, 1)] := by kernel_rfl
@[simp] theorem tz103 : tzero Tryd.prog 103 = some (.agg [.p (.string ⟨#[]⟩)]) := by kernel_rfl
@[simp] theorem ts106 : tsize Tryd.prog 106 = some (24, true) := by kernel_rfl
@[simp] theorem tk106 : tkind Tryd.prog 106 = 0 := by kernel_rfl
@[simp] theorem ti106 : isIface Tryd.prog 106 = false := by kernel_rfl
@[simp] theorem tstn106 : isString Tryd.prog 106 = false := by kernel_rfl
@[simp] theorem tbyn106 : isBytes Tryd.prog 106 = false := by kernel_rfl
@[simp] theorem ta106 : tarr Tryd.prog 106 = some (24, 1, false) := by kernel_rfl
@[simp] theorem tz106 : tzero Tryd.prog 106 = some (.agg [.p (.int .u8 0), .p (.int .u8 0), .p (.int .u8 0), .p (.int .u8 0), .p (.int .u8 0), .p (.int .u8 0), .p (.int .u8 0), .p (.int .u8 0), .p (.int .u8 0), .p (.int .u8 0), .p (.int .u8 0), .p (.int .u8 0), .p (.int .u8 0), .p (.int .u8 0), .p (.int .u8 0), .p (.int .u8 0), .p (.int .u8 0), .p (.int .u8 0), .p (.int .u8 0), .p (.int .u8 0), .p (.int .u8 0), .p (.int .u8 0), .p (.int .u8 0), .p (.int .u8 0)]) := by kernel_rfl
@[simp] theorem ts112 : tsize Tryd.prog 112 = some (20, true) := by kernel_rfl
@[simp] theorem tk112 : tkind Tryd.prog 112 = 0 := by kernel_rfl
@[simp] theorem ti112 : isIface Tryd.prog 112 = false := by kernel_rfl
@[simp] theorem tstn112 : isString Tryd.prog 112 = false := by kernel_rfl
@[simp] theorem tbyn112 : isBytes Tryd.prog 112 = false := by kernel_rfl
@[simp] theorem ta112 : tarr Tryd.prog 112 = some (20, 1, false) := by kernel_rfl
@[simp] theorem tz112 : tzero Tryd.prog 112 = some (.agg [.p (.int .u64 0), .p (.int .u64 0), .p (.int .u64 0), .p (.int .u64 0), .p (.int .u64 0), .p (.int .u64 0), .p (.int .u64 0), .p (.int .u64 0), .p (.int .u64 0), .p (.int .u64 0), .p (.int .u64 0), .p (.int .u64 0), .p (.int .u64 0), .p (.int .u64 0), .p (.int .u64 0), .p (.int .u64 0), .p (.int .u64 0), .p (.int .u64 0), .p (.int .u64 0), .p (.int .u64 0)]) := by kernel_rfl
@[simp] theorem ts113 : tsize Tryd.prog 113 = some (1, false) := by kernel_rfl
@[simp] theorem tk113 : tkind Tryd.prog 113 = 0 := by kernel_rfl
@[simp] theorem ti113 : isIface Tryd.prog 113 = false := by kernel_rfl
@[simp] theorem tl113 : tleaf Tryd.prog 113 = 2 := by kernel_rfl
@[simp] theorem tu113 : Tryd.prog.underlying 113 = some (.int .u32) := by kernel_rfl
@[simp] theorem tstn113 : isString Tryd.prog 113 = false := by kernel_rfl
@[simp] theorem tbyn113 : isBytes Tryd.prog 113 = false := by kernel_rfl
@[simp] theorem tz113 : tzero Tryd.prog 113 = some (.p (.int .u32 0)) := by kernel_rfl
@[simp] theorem ts114 : tsize Tryd.prog 114 = some (65, true) := by kernel_rfl
@[simp] theorem tk114 : tkind Tryd.prog 114 = 0 := by kernel_rfl
@[simp] theorem ti114 : isIface Tryd.prog 114 = false := by kernel_rfl
@[simp] theorem tstn114 : isString Tryd.prog 114 = false := by kernel_rfl
@[simp] theorem tbyn114 : isBytes Tryd.prog 114 = false := by kernel_rfl
@[simp] theorem ta114 : tarr Tryd.prog 114 = some (65, 1, false) := by kernel_rfl
@[simp] theorem ts118 : tsize Tryd.prog 118 = some (32, true) := by kernel_rfl
@[simp] theorem tk118 : tkind Tryd.prog 118 = 0 := by kernel_rfl
@[simp] theorem ti118 : isIface Tryd.prog 118 = false := by kernel_rfl
@[simp] theorem tstn118 : isString Tryd.prog 118 = false := by kernel_rfl
@[simp] theorem tbyn118 : isBytes Tryd.prog 118 = false := by kernel_rfl
@[simp] theorem ta118 : tarr Tryd.prog 118 = some (32, 1, false) := by kernel_rfl
@[simp] theorem tz118 : tzero Tryd.prog 118 = some (.agg [.p (.int .u8 0), .p (.int .u8 0), .p (.int .u8 0), .p (.int .u8 0), .p (.int .u8 0), .p (.int .u8 0), .p (.int .u8 0), .p (.int .u8 0), .p (.int .u8 0), .p (.int .u8 0), .p (.int .u8 0), .p (.int .u8 0), .p (.int .u8 0), .p (.int .u8 0), .p (.int .u8 0), .p (.int .u8 0), .p (.int .u8 0), .p (.int .u8 0), .p (.int .u8 0), .p (.int .u8 0), .p (.int .u8 0), .p (.int .u8 0), .p (.int .u8 0), .p (.int .u8 0), .p (.int .u8 0), .p (.int .u8 0), .p (.int .u8 0), .p (.int .u8 0), .p (.int .u8 0), .p (.int .u8 0), .p (.int .u8 0), .p (.int .u8 0)]) := by kernel_rfl
@[simp] theorem ts119 : tsize Tryd.prog 119 = some (64, true) := by kernel_rfl
@[simp] theorem tk119 : tkind Tryd.prog 119 = 0 := by kernel_rfl
@[simp] theorem ti119 : isIface Tryd.prog 119 = false := by kernel_rfl
@[simp] theorem tstn119 : isString Tryd.prog 119 = false := by kernel_rfl
@[simp] theorem tbyn119 : isBytes Tryd.prog 119 = false := by kernel_rfl
@[simp] theorem ta119 : tarr Tryd.prog 119 = some (64, 1, false) := by kernel_rfl
end Go.AL
/-! Regions that draw their order, if what they do leaves what is known as it is: the order of the text serves for all. -/
namespace Go.AL
set_option linter.unusedVariables false
set_option linter.unusedSimpArgs false

variable {P : Program} {σ : ASt} {R : AV → ASt → Prop} {D : List Deferred} {Q : Exit → List AV → ASt → Prop} {fr : List AV} {ops : Array Oper}

theorem aop_congr {mu : List Nat} {o : Oper} {ρ ρ' : Operand → AV} (h : ∀ x ∈ o.op.operands, ρ x = ρ' x) : aop P mu o ρ σ = aop P mu o ρ' σ := by
  have pairs : ∀ ps : Array (Nat × Operand), (∀ x ∈ ps.map (·.2), ρ x = ρ' x) → (ps.toList.map fun q => (q.1, ρ q.2)) = ps.toList.map fun q => (q.1, ρ' q.2) := fun ps hp =>
    List.map_congr_left fun p hm => by rw [hp p.2 (Array.mem_map.2 ⟨p, by simpa using hm, rfl⟩)]
  have lst : ∀ ps : Array Operand, (∀ x ∈ ps, ρ x = ρ' x) → ps.toList.map ρ = ps.toList.map ρ' := fun ps hp => List.map_congr_left fun p hm => hp p (by simpa using hm)
  obtain ⟨dst, op, type, pos, after, guard⟩ := o
  cases op <;> simp only [Op.operands] at h <;> unfold aop <;> dsimp only
  case build t ps => rw [pairs ps fun x hx => h x (by simpa using hx)]
  case buildSlice t n ps => rw [pairs ps fun x hx => h x (by simpa using hx)]
  case makeFunc fn first captured => rw [lst first fun x hx => h x (by simp [hx]), lst captured fun x hx => h x (by simp [hx])]
  case call c =>
    cases hc : c.callee with
    | builtin b => dsimp only; rw [lst c.args fun x hx => h x (by simp [Call.operands, hx])]
    | value f => rfl
    | invoke r m => rfl
  case slice t x lo hi mx => cases lo <;> cases hi <;> cases mx <;> simp_all
  all_goals (first | rfl | (simp_all; done))
theorem aopP_congr {o : Oper} {ρ ρ' : Operand → AV} (h : ∀ x ∈ o.op.operands, ρ x = ρ' x) : aopP P o ρ σ = aopP P o ρ' σ := by
  unfold aopP
  split
  · rfl
  · rw [aop_congr h]

/-- What an operation leaves in its slot, in whatever frame agrees with this one where it looks. -/
def Yld (P : Program) (ops : Array Oper) (σ : ASt) (o : Oper) (fr : List AV) (r : AV) : Prop :=
  ∀ G (a : Act) w, (∀ t ∈ o.looksAt ops, Rep G w (fget fr t) (a.eval (.tmp t))) → SimW G σ w →
    (Region.wanted o (yielded ops a.tmps) = true → OutcN P G w (fun r' σ' => r' = r ∧ σ' = σ) ((execOp a.eval o).run P w)) ∧ (Region.wanted o (yielded ops a.tmps) = false → Rep G w r undef)

theorem looks_op {o : Oper} {t : Nat} (h : Operand.tmp t ∈ o.op.operands) : t ∈ o.looksAt ops :=
  List.mem_append_left _ (List.mem_filterMap.2 ⟨.tmp t, by simpa using h, rfl⟩)
theorem fget_fset_ne : ∀ (l : List AV) (d t : Nat) (v : AV), t ≠ d → fget (fset l d v) t = fget l t
  | [], _, _, _, _ => rfl
  | _ :: _, 0, 0, _, h => absurd rfl h
  | _ :: _, 0, _ + 1, _, _ => rfl
  | _ :: _, _ + 1, 0, _, _ => rfl
  | _ :: l, d + 1, t + 1, v, h => by rw [fset, fget, fget]; exact fget_fset_ne l d t v (by omega)
theorem fset_comm : ∀ (l : List AV) (d e : Nat) (v u : AV), d ≠ e → fset (fset l d v) e u = fset (fset l e u) d v
  | [], _, _, _, _, _ => rfl
  | _ :: _, 0, 0, _, _, h => absurd rfl h
  | _ :: _, 0, _ + 1, _, _, _ => rfl
  | _ :: _, _ + 1, 0, _, _, _ => rfl
  | _ :: l, d + 1, e + 1, v, u, h => by simp only [fset]; rw [fset_comm l d e v u (by omega)]
theorem Yld.put {o : Oper} {r : AV} {d : Option Tmp} {v : AV} (hd : ∀ x, d = some x → x ∉ o.looksAt ops) : Yld P ops σ o (aput fr d v) r ↔ Yld P ops σ o fr r := by
  have e : ∀ t ∈ o.looksAt ops, fget (aput fr d v) t = fget fr t := by
    intro t ht
    cases d with
    | none => rfl
    | some x => exact fget_fset_ne fr x t v fun e => hd x rfl (e ▸ ht)
  constructor
  · intro h G a w ha hw
    exact h G a w (fun t ht => by rw [e t ht]; exact ha t ht) hw
  · intro h G a w ha hw
    exact h G a w (fun t ht => by rw [← e t ht]; exact ha t ht) hw
theorem aput_comm (fr : List AV) {x y : Option Tmp} (v u : AV) (h : ∀ d, x = some d → y ≠ some d) : aput (aput fr x v) y u = aput (aput fr y u) x v := by
  cases x with
  | none => rfl
  | some d =>
    cases y with
    | none => rfl
    | some e => exact fset_comm fr d e v u fun he => h d rfl (he ▸ rfl)

/-- Operation number i comes up. -/
def yOp (P : Program) (ops : Array Oper) (σ : ASt) (i : Nat) (K : List AV → Prop) (fr : List AV) : Prop :=
  match ops[i]? with
  | none => K fr
  | some o => ∃ r, Yld P ops σ o fr r ∧ K (aput fr o.dst r)
def anyY (P : Program) (md : Region.Mode) (ops : Array Oper) (σ : ASt) (K : List AV → Prop) : Nat → Array Bool → List AV → Prop
  | 0, listed, fr => Region.ready md ops listed = [] ∧ K fr
  | fuel + 1, listed, fr => (Region.ready md ops listed = [] → K fr) ∧ ∀ i ∈ Region.ready md ops listed, yOp P ops σ i (anyY P md ops σ K fuel (listed.setIfInBounds i true)) fr
theorem yOp_mono {i : Nat} {K K' : List AV → Prop} (h : ∀ fr, K fr → K' fr) (hh : yOp P ops σ i K fr) : yOp P ops σ i K' fr := by
  unfold yOp at *
  split
  · rename_i ho; simp only [ho] at hh; exact h _ hh
  · rename_i o ho
    simp only [ho] at hh
    obtain ⟨r, h1, h2⟩ := hh
    exact ⟨r, h1, h _ h2⟩
theorem wpAny_of_anyY {md : Region.Mode} {K : List AV → Prop} {D : List Deferred} {Q : Exit → List AV → ASt → Prop} (hK : ∀ fr, K fr → Q .normal fr σ) : ∀ (fuel : Nat) (listed : Array Bool) (fr : List AV) (G : Ghost) (a : Act) (w : World) (G0 : Ghost) (w0 : World),
    Le G0 w0 G w → Sim G fr σ D a w → anyY P md ops σ K fuel listed fr → wpAny P md ops (lift G0 w0 D Q) fuel listed a w
  | 0, _, fr, G, a, w, G0, w0, hl, hs, h => ⟨h.1, G, fr, σ, hl, hs, hK _ h.2⟩
  | fuel + 1, listed, fr, G, a, w, G0, w0, hl, hs, h => by
    refine ⟨fun h0 => ⟨G, fr, σ, hl, hs, hK _ (h.1 h0)⟩, fun i hi => ?_⟩
    have hy := h.2 i hi
    unfold yOp at hy
    unfold wpOp
    split
    · rename_i ho
      simp only [ho] at hy
      exact wpAny_of_anyY hK fuel _ fr G a w G0 w0 hl hs hy
    · rename_i o ho
      simp only [ho] at hy
      obtain ⟨r, hr, hk⟩ := hy
      have hyl := hr G a w (fun t _ => hs.ev (.tmp t)) hs.w
      by_cases hw : Region.wanted o (yielded ops a.tmps) = true
      · rw [if_pos hw]
        refine .inl ?_
        have hq := hyl.1 hw
        unfold Oper.wp
        have key : ∀ v w', Outc G w (fun r' σ' => r' = r ∧ σ' = σ) v w' → wpAny P md ops (lift G0 w0 D Q) fuel (listed.setIfInBounds i true) (a.put o.dst v) w' := by
          rintro v w' ⟨r', G', σ', hl', hw', hr', e1, e2⟩
          rw [e1] at hr'
          rw [e2] at hw'
          exact wpAny_of_anyY hK fuel _ _ G' _ w' G0 w0 (hl.trans hl') ((hs.le hl' hw').put o.dst hr') hk
        generalize (execOp a.eval o).run P w = n at hq
        cases n with
        | halt => exact hq.elim
        | ok n w' =>
          cases n with
          | value v => exact key v w' hq
          | skip => exact key undef w' hq
          | enter f args =>
            refine Calls.mono hq fun e w'' he => ?_
            cases e with
            | returned v => exact key v w'' he
            | panicked c => exact he.elim
            | outgrown => exact he.elim
          | _ => exact hq.elim
      · rw [if_neg hw]
        have hu := hyl.2 (by simpa using hw)
        exact wpAny_of_anyY hK fuel _ _ G _ w G0 w0 hl (hs.put o.dst hu) hk
theorem yOp_put {j : Nat} {oi oj : Oper} {v : AV} (hj : ops[j]? = some oj) (hap : oi.apart ops oj = true) {K : List AV → Prop} (hy : Yld P ops σ oi fr v) (h : yOp P ops σ j K (aput fr oi.dst v)) :
    yOp P ops σ j (fun fr' => Yld P ops σ oi fr' v ∧ K (aput fr' oi.dst v)) fr := by
  obtain ⟨h1, h2, h3⟩ := Oper.apart_spec hap
  unfold yOp at *
  simp only [hj] at *
  obtain ⟨r, hr, hk⟩ := h
  refine ⟨r, (Yld.put h1).1 hr, (Yld.put h3).2 hy, ?_⟩
  rw [← aput_comm fr v r h2]
  exact hk
theorem anyY_first {md : Region.Mode} {K : List AV → Prop} {i : Nat} {oi : Oper} {v : AV} (hi : ops[i]? = some oi) : ∀ (fuel : Nat) (listed : Array Bool) (fr : List AV),
      (∀ j oj, ops[j]? = some oj → j ≠ i → listed.getD j true = false → (∀ e ∈ oj.after, Region.binds md e = true → e.on ≠ i) → oi.apart ops oj = true) →
      i ∈ Region.ready md ops listed → Yld P ops σ oi fr v →
      anyY P md ops σ K fuel (listed.setIfInBounds i true) (aput fr oi.dst v) → anyY P md ops σ K (fuel + 1) listed fr := by
  intro fuel
  have self : ∀ {K : List AV → Prop} {fr}, Yld P ops σ oi fr v → K (aput fr oi.dst v) → yOp P ops σ i K fr := fun hy hk => by
    unfold yOp; simp only [hi]; exact ⟨v, hy, hk⟩
  induction fuel with
  | zero =>
    intro listed fr _ hr hy H
    refine ⟨fun h => (by rw [h] at hr; cases hr), fun j hj => ?_⟩
    by_cases hji : j = i
    · subst hji; exact self hy H
    · have := ready_mono hj hji
      rw [H.1] at this
      cases this
  | succ fuel ih =>
    intro listed fr hfree hr hy H
    refine ⟨fun h => (by rw [h] at hr; cases hr), fun j hj => ?_⟩
    by_cases hji : j = i
    · subst hji; exact self hy H
    · have h1 := H.2 j (ready_mono hj hji)
      obtain ⟨hjun, oj, hoj, hall⟩ := mem_ready.1 hj
      have hnot : ∀ e ∈ oj.after, Region.binds md e = true → e.on ≠ i := fun e he hb heq => by
        have h1 := hall e he hb
        have h0 := (mem_ready.1 hr).1
        rw [heq] at h1
        rcases Nat.lt_or_ge i listed.size with h' | h'
        · simp [h'] at h0 h1; rw [h0] at h1; cases h1
        · simp [Array.getElem?_eq_none h'] at h1
      have h2 := yOp_put hoj (hfree j oj hoj hji hjun hnot) hy h1
      have hfree' : ∀ k ok, ops[k]? = some ok → k ≠ i → (listed.setIfInBounds j true).getD k true = false →
          (∀ e ∈ ok.after, Region.binds md e = true → e.on ≠ i) → oi.apart ops ok = true := fun k ok hk hki hun hno => by
        refine hfree k ok hk hki ?_ hno
        by_cases hjk : j = k
        · subst hjk; exact hjun
        · rw [getD_set_ne true hjk] at hun; exact hun
      refine yOp_mono (fun fr' h3 => ih (listed.setIfInBounds j true) fr' hfree' (ready_mono hr (Ne.symm hji)) h3.1 ?_) h2
      rw [Array.setIfInBounds_comm _ _ hji]
      exact h3.2
/-- The order of the text. -/
def YL (P : Program) (ops : Array Oper) (σ : ASt) (K : List AV → Prop) : List Oper → List AV → Prop
  | [], fr => K fr
  | o :: rest, fr => ∃ r, Yld P ops σ o fr r ∧ YL P ops σ K rest (aput fr o.dst r)
theorem anyY_lex {md : Region.Mode} {K : List AV → Prop} (hs : Region.noSelect ops = true) : ∀ (l : List Oper) (k : Nat) (listed : Array Bool) (fr : List AV), (∀ j, l[j]? = ops[k + j]?) →
    Region.lexFrom md ops l.length k listed = true → YL P ops σ K l fr → anyY P md ops σ K l.length listed fr
  | [], _, _, _, _, hB, h => ⟨by simpa [Region.lexFrom] using hB, h⟩
  | o :: l, k, listed, fr, hl, hB, h => by
    have h0 : ops[k]? = some o := by simpa using (hl 0).symm
    simp only [List.length_cons, Region.lexFrom, Bool.and_eq_true] at hB
    obtain ⟨⟨hr, hf⟩, hB'⟩ := hB
    obtain ⟨r, hy, hK⟩ := h
    exact anyY_first h0 l.length listed fr (Region.free_spec h0 hf) (by simpa using hr) hy
      (anyY_lex hs l (k + 1) _ _ (fun j => by have := hl (j + 1); simpa [Nat.add_assoc, Nat.add_comm 1 j] using this) hB' hK)
theorem aw_draw {id : Nat} {l : List Oper} (hm : P.follows .mixedOrders = true) (hB : Region.lexB .any l.toArray = true) (h : YL P l.toArray σ (fun fr => Q .normal fr σ) l fr) : AW P D (.region id l.toArray true) Q fr σ := by
  intro G a w hs
  simp only [Region.lexB, Bool.and_eq_true] at hB
  have hb : Go.RowKit.Below w.heap.size w { w with drawn := w.drawn + 1 } := ⟨rfl, rfl, rfl, Nat.le_refl _, fun _ _ => rfl⟩
  have hs2 : Sim G fr σ D a { w with drawn := w.drawn + 1 } := hs.le (Le.grow hs.w hb) (hs.w.grow hb)
  refine wp_region_any hm (wpAny_of_anyY (K := fun fr => Q .normal fr σ) (fun fr h => h) _ _ fr G a _ G w (Le.grow hs.w hb) hs2 ?_)
  have := anyY_lex (md := .any) hB.1 l 0 (Array.replicate l.toArray.size false) fr (by simp) (by simpa using hB.2) h
  simpa using this

/-! ### how it is shown -/
open Classical in
noncomputable def only (o : Oper) (ρ : Operand → AV) : Operand → AV := fun x => if x ∈ o.op.operands then ρ x else .any
theorem only_eq {o : Oper} {ρ : Operand → AV} : ∀ x ∈ o.op.operands, ρ x = only o ρ x := fun x hx => by unfold only; rw [if_pos hx]
theorem only_rep {o : Oper} {G w} {a : Act} (h : ∀ t ∈ o.looksAt ops, Rep G w (fget fr t) (a.eval (.tmp t))) (x : Operand) : Rep G w (only o (aev fr) x) (a.eval x) := by
  unfold only
  split
  · rename_i hx
    cases x with
    | tmp t => exact h t (looks_op hx)
    | const v => exact rep_ofV G w v
    | global g => exact .p _
    | func f => exact .p _
  · exact .any _
theorem only_strip {o : Oper} {G w} {a : Act} (h : ∀ t ∈ o.looksAt ops, Rep G w (fget fr t) (a.eval (.tmp t))) (x : Operand) : Rep G w (only o (fun x => strip true (aev fr x)) x) (a.eval x) := by
  unfold only
  split
  · rename_i hx
    refine strip_rep rfl ?_
    cases x with
    | tmp t => exact h t (looks_op hx)
    | const v => exact rep_ofV G w v
    | global g => exact .p _
    | func f => exact .p _
  · exact .any _
theorem yld_plain {o : Oper} {r : AV} (hg : o.guard = none) (h : aopP P o (aev fr) σ = some r) : Yld P ops σ o fr r := by
  intro G a w ha hw
  have h2 : aopP P o (only o (aev fr)) σ = some r := by rw [← aopP_congr only_eq]; exact h
  refine ⟨fun _ => opq_aop (aopP_spec h2) ⟨rfl, rfl⟩ G a.eval w (only_rep ha) hw, fun hf => ?_⟩
  simp [Region.wanted, hg] at hf
theorem looks_guard {o : Oper} {j d : Nat} {want : Bool} (hg : o.guard = some (j, want)) (hd : (ops[j]?).bind (·.dst) = some d) : d ∈ o.looksAt ops := by
  unfold Oper.looksAt
  rw [hg]
  simp [hd]
theorem gcond_agree {o : Oper} {c : Bool} (h : gcond ops o fr = some c) {G w} {a : Act} (ha : ∀ t ∈ o.looksAt ops, Rep G w (fget fr t) (a.eval (.tmp t))) : Region.wanted o (yielded ops a.tmps) = c := by
  unfold gcond at h
  unfold Region.wanted
  cases hg : o.guard with
  | none => rw [hg] at h; cases h
  | some jw =>
    obtain ⟨j, want⟩ := jw
    rw [hg] at h
    simp only at h ⊢
    unfold yielded
    cases hd : (ops[j]?).bind (·.dst) with
    | none => rw [hd] at h; cases h
    | some d =>
      rw [hd] at h
      simp only [Option.bind_some] at h ⊢
      have hr := ha d (looks_guard hg hd)
      simp only [Act.eval] at hr
      have key : ∀ v, Rep G w (fget fr d) v → ((match v with | .bool b => some b | _ => none : Option Bool) == some want) = c := by
        intro v hr
        split at h
        · rename_i b hf
          rw [hf] at hr
          cases hr
          obtain rfl := Option.some.inj h
          cases b <;> cases want <;> rfl
        · rename_i c' b hf
          rw [hf] at hr
          obtain rfl := Option.some.inj h
          cases hr with
          | opt _ _ _ h1 h0 =>
            cases c' with
            | false => rw [h0 rfl]; rfl
            | true =>
              have := h1 rfl
              cases this
              cases b <;> cases want <;> rfl
        · rename_i v' _ hf
          rw [hf] at hr
          obtain rfl := Option.some.inj h
          cases hr with
          | opt _ _ _ h1 h0 => rw [h0 rfl]; rfl
        · cases h
      have h2 := key _ hr
      rw [Array.getD_eq_getD_getElem?] at h2
      cases hv : a.tmps[d]? with
      | none => rw [hv] at h2; exact h2
      | some v =>
        rw [hv] at h2
        simp only [Option.getD_some] at h2
        cases v <;> exact h2
theorem outc_opt {G w r v w'} (h : Outc G w (fun r' σ' => r' = r ∧ σ' = σ) v w') : Outc G w (fun r' σ' => r' = .opt true r ∧ σ' = σ) v w' := by
  obtain ⟨r', G', σ', hl, hw, hr, rfl, rfl⟩ := h
  exact ⟨_, G', _, hl, hw, .opt true _ v (fun _ => hr) (fun e => by cases e), rfl, rfl⟩
theorem outcN_opt {G w r n} (h : OutcN P G w (fun r' σ' => r' = r ∧ σ' = σ) n) : OutcN P G w (fun r' σ' => r' = .opt true r ∧ σ' = σ) n := by
  cases n with
  | halt => exact h.elim
  | ok n w' =>
    cases n with
    | value v => exact outc_opt h
    | skip => exact outc_opt h
    | enter f args =>
      refine Calls.mono h fun e w'' he => ?_
      cases e with
      | returned v => exact outc_opt he
      | panicked c => exact he.elim
      | outgrown => exact he.elim
    | _ => exact h.elim
theorem yld_guard {o : Oper} {r : AV} {c : Bool} (hc : gcond ops o fr = some c) (h : aopP P o (fun x => strip c (aev fr x)) σ = some r) : Yld P ops σ o fr (.opt c r) := by
  intro G a w ha hw
  rw [gcond_agree hc ha]
  cases c with
  | false => exact ⟨fun e => (by cases e), fun _ => .opt false r undef (fun e => (by cases e)) fun _ => rfl⟩
  | true =>
    refine ⟨fun _ => ?_, fun e => by cases e⟩
    have h2 : aopP P o (only o fun x => strip true (aev fr x)) σ = some r := by rw [← aopP_congr only_eq]; exact h
    have hq := opq_aop (R := fun r' σ' => r' = r ∧ σ' = σ) (aopP_spec h2) ⟨rfl, rfl⟩ G a.eval w (only_strip ha) hw
    exact outcN_opt hq
/-- As far as it goes, in a region that draws. -/
def YRun (P : Program) (ops : Array Oper) (σ : ASt) (K : List AV → Prop) : List Oper → List AV → Prop
  | [], fr => K fr
  | o :: rest, fr =>
    match o.guard with
    | none =>
      match aopP P o (aev fr) σ with
      | some r => Shut (YRun P ops σ K rest (aput fr o.dst r))
      | none => YL P ops σ K (o :: rest) fr
    | some _ =>
      match gcond ops o fr with
      | some c =>
        match aopP P o (fun x => strip c (aev fr x)) σ with
        | some r => Shut (YRun P ops σ K rest (aput fr o.dst (.opt c r)))
        | none => YL P ops σ K (o :: rest) fr
      | none => YL P ops σ K (o :: rest) fr
theorem yl_run {K : List AV → Prop} : ∀ {l : List Oper} {fr : List AV}, YRun P ops σ K l fr → YL P ops σ K l fr
  | [], _, h => h
  | o :: rest, fr, h => by
    unfold YRun at h
    split at h
    · rename_i hg
      split at h
      · rename_i r hr; exact ⟨r, yld_plain hg hr, yl_run h.out⟩
      · exact h
    · split at h
      · rename_i c hc
        split at h
        · rename_i r hr; exact ⟨_, yld_guard hc hr, yl_run h.out⟩
        · exact h
      · exact h
theorem shut_ynil {K : List AV → Prop} : Shut (YRun P ops σ K [] fr) ↔ K fr := ⟨fun h => h.1, fun h => ⟨h⟩⟩
theorem shut_ycons {K : List AV → Prop} {o : Oper} {rest : List Oper} : Shut (YRun P ops σ K (o :: rest) fr) ↔ (match o.guard with
    | none =>
      match aopP P o (aev fr) σ with
      | some r => Shut (YRun P ops σ K rest (aput fr o.dst r))
      | none => YL P ops σ K (o :: rest) fr
    | some _ =>
      match gcond ops o fr with
      | some c =>
        match aopP P o (fun x => strip c (aev fr x)) σ with
        | some r => Shut (YRun P ops σ K rest (aput fr o.dst (.opt c r)))
        | none => YL P ops σ K (o :: rest) fr
      | none => YL P ops σ K (o :: rest) fr) := ⟨fun h => by have := h.1; unfold YRun at this; exact this, fun h => ⟨by unfold YRun; exact h⟩⟩
theorem aw_yrun {id : Nat} {l : List Oper} (hm : P.follows .mixedOrders = true) (hB : Region.lexB .any l.toArray = true) (h : Shut (YRun P l.toArray σ (fun fr => Q .normal fr σ) l fr)) : AW P D (.region id l.toArray true) Q fr σ :=
  aw_draw hm hB (yl_run h.out)
theorem yl_go {K : List AV → Prop} {l : List Oper} (h : Shut (YRun P ops σ K l fr)) : YL P ops σ K l fr := yl_run h.out
theorem yld_opq {o : Oper} {r : AV} (hg : o.guard = none) (h : ∀ ρ, (∀ x ∈ o.op.operands, ρ x = aev fr x) → OpQ P o ρ σ fun r' σ' => r' = r ∧ σ' = σ) : Yld P ops σ o fr r := by
  intro G a w ha hw
  exact ⟨fun _ => h (only o (aev fr)) (fun x hx => (only_eq x hx).symm) G a.eval w (only_rep ha) hw, fun hf => by simp [Region.wanted, hg] at hf⟩
theorem yld_opq_guard {o : Oper} {r : AV} {c : Bool} (hc : gcond ops o fr = some c) (h : c = true → ∀ ρ, (∀ x ∈ o.op.operands, ρ x = strip c (aev fr x)) → OpQ P o ρ σ fun r' σ' => r' = r ∧ σ' = σ) : Yld P ops σ o fr (.opt c r) := by
  intro G a w ha hw
  rw [gcond_agree hc ha]
  cases c with
  | false => exact ⟨fun e => (by cases e), fun _ => .opt false r undef (fun e => (by cases e)) fun _ => rfl⟩
  | true => exact ⟨fun _ => outcN_opt (h rfl (only o fun x => strip true (aev fr x)) (fun x hx => (only_eq x hx).symm) G a.eval w (only_strip ha) hw), fun e => by cases e⟩
theorem opq_pure {o : Oper} {f : Operand} {aa : Array Operand} {ts : Array TypeId} {ρ ρ0 : Operand → AV} (ho : o.op = .call { callee := .value f, args := aa, argTypes := ts })
    {F : FuncId} {first cap : List AV} (hf : acallee (ρ0 f) = some (F, first, cap)) (hcl : callable P F = true) {args : List AV} (he : first ++ aa.toList.map ρ0 ++ cap = args) {r : AV} (hp : APure P F args r) (hca : ∀ a ∈ args, Cl a) (hcr : Cl r) (hρ : ∀ x ∈ o.op.operands, ρ x = ρ0 x) : OpQ P o ρ σ fun r' σ' => r' = r ∧ σ' = σ := by
  rw [ho] at hρ
  have e1 : ρ f = ρ0 f := hρ f (by simp [Op.operands, Call.operands])
  have e2 : aa.toList.map ρ = aa.toList.map ρ0 := List.map_congr_left fun x hx => hρ x (by simp only [Op.operands, Call.operands]; simp [Array.mem_toList_iff.1 hx])
  exact opq_call ho (by rw [e1]; exact hf) hcl (by rw [e2, he]; exact hp.call hca hcr σ)
/-- A pure call, in a region that draws. -/
theorem yl_pure {K : List AV → Prop} {o : Oper} {rest : List Oper} {f : Operand} {aa : Array Operand} {ts : Array TypeId} (ho : o.op = .call { callee := .value f, args := aa, argTypes := ts }) (hg : o.guard = none)
    {F : FuncId} {first cap : List AV} (hf : acallee (aev fr f) = some (F, first, cap)) (hcl : callable P F = true) {args : List AV} (he : first ++ aa.toList.map (aev fr) ++ cap = args) {r : AV} (hp : APure P F args r) (hca : ∀ a ∈ args, Cl a) (hcr : Cl r)
    (hk : Shut (YRun P ops σ K rest (aput fr o.dst r))) : YL P ops σ K (o :: rest) fr :=
  ⟨r, yld_opq hg fun ρ hρ => opq_pure ho hf hcl he hp hca hcr hρ, yl_run hk.out⟩
theorem yl_pure_guard {K : List AV → Prop} {o : Oper} {rest : List Oper} {f : Operand} {aa : Array Operand} {ts : Array TypeId} (ho : o.op = .call { callee := .value f, args := aa, argTypes := ts }) {c : Bool} (hg : gcond ops o fr = some c)
    {F : FuncId} {first cap : List AV} (hf : acallee (strip c (aev fr f)) = some (F, first, cap)) (hcl : callable P F = true) {args : List AV} (he : first ++ aa.toList.map (fun x => strip c (aev fr x)) ++ cap = args) {r : AV} (hp : c = true → APure P F args r) (hca : ∀ a ∈ args, Cl a) (hcr : Cl r)
    (hk : Shut (YRun P ops σ K rest (aput fr o.dst (.opt c r)))) : YL P ops σ K (o :: rest) fr :=
  ⟨_, yld_opq_guard hg fun hc ρ hρ => opq_pure (ρ0 := fun x => strip c (aev fr x)) ho hf hcl he (hp hc) hca hcr hρ, yl_run hk.out⟩
end Go.AL
/-! Regions that draw their order, first what leaves all as it is, then what has its place: the second part may do anything. -/
namespace Go.AL
set_option linter.unusedVariables false
set_option linter.unusedSimpArgs false

variable {P : Program} {σ : ASt} {R : AV → ASt → Prop} {D : List Deferred} {Q : Exit → List AV → ASt → Prop} {fr : List AV} {ops : Array Oper}

def anyZ (P : Program) (md : Region.Mode) (ops : Array Oper) (σ : ASt) (K : Array Bool → List AV → Prop) : Nat → Array Bool → List AV → Prop
  | 0, listed, fr => K listed fr
  | n + 1, listed, fr => Region.ready md ops listed ≠ [] ∧ ∀ i ∈ Region.ready md ops listed, yOp P ops σ i (anyZ P md ops σ K n (listed.setIfInBounds i true)) fr
theorem wpAny_of_anyZ {md : Region.Mode} {K : Array Bool → List AV → Prop} {D : List Deferred} {Q : Exit → List AV → ASt → Prop} {m : Nat}
    (hK : ∀ listed fr, K listed fr → ∀ G a w, Sim G fr σ D a w → ∀ G0 w0, Le G0 w0 G w → wpAny P md ops (lift G0 w0 D Q) m listed a w) : ∀ (n : Nat) (listed : Array Bool) (fr : List AV) (G : Ghost) (a : Act) (w : World) (G0 : Ghost) (w0 : World),
    Le G0 w0 G w → Sim G fr σ D a w → anyZ P md ops σ K n listed fr → wpAny P md ops (lift G0 w0 D Q) (m + n) listed a w
  | 0, listed, fr, G, a, w, G0, w0, hl, hs, h => hK listed fr h G a w hs G0 w0 hl
  | n + 1, listed, fr, G, a, w, G0, w0, hl, hs, h => by
    refine ⟨fun h0 => absurd h0 h.1, fun i hi => ?_⟩
    have hy := h.2 i hi
    unfold yOp at hy
    unfold wpOp
    split
    · rename_i ho
      simp only [ho] at hy
      exact wpAny_of_anyZ hK n _ fr G a w G0 w0 hl hs hy
    · rename_i o ho
      simp only [ho] at hy
      obtain ⟨r, hr, hk⟩ := hy
      have hyl := hr G a w (fun t _ => hs.ev (.tmp t)) hs.w
      by_cases hw : Region.wanted o (yielded ops a.tmps) = true
      · rw [if_pos hw]
        refine .inl ?_
        have hq := hyl.1 hw
        unfold Oper.wp
        have key : ∀ v w', Outc G w (fun r' σ' => r' = r ∧ σ' = σ) v w' → wpAny P md ops (lift G0 w0 D Q) (m + n) (listed.setIfInBounds i true) (a.put o.dst v) w' := by
          rintro v w' ⟨r', G', σ', hl', hw', hr', e1, e2⟩
          rw [e1] at hr'
          rw [e2] at hw'
          exact wpAny_of_anyZ hK n _ _ G' _ w' G0 w0 (hl.trans hl') ((hs.le hl' hw').put o.dst hr') hk
        generalize (execOp a.eval o).run P w = n at hq
        cases n with
        | halt => exact hq.elim
        | ok n w' =>
          cases n with
          | value v => exact key v w' hq
          | skip => exact key undef w' hq
          | enter f args =>
            refine Calls.mono hq fun e w'' he => ?_
            cases e with
            | returned v => exact key v w'' he
            | panicked c => exact he.elim
            | outgrown => exact he.elim
          | _ => exact hq.elim
      · rw [if_neg hw]
        have hu := hyl.2 (by simpa using hw)
        exact wpAny_of_anyZ hK n _ _ G _ w G0 w0 hl (hs.put o.dst hu) hk
theorem anyZ_first {md : Region.Mode} {K : Array Bool → List AV → Prop} {i : Nat} {oi : Oper} {v : AV} (hi : ops[i]? = some oi)
    (hK : ∀ listed fr, i ∈ Region.ready md ops listed → K (listed.setIfInBounds i true) fr → ∀ j ∈ Region.ready md ops listed, j = i) : ∀ (n : Nat) (listed : Array Bool) (fr : List AV),
      (∀ j oj, ops[j]? = some oj → j ≠ i → listed.getD j true = false → (∀ e ∈ oj.after, Region.binds md e = true → e.on ≠ i) → oi.apart ops oj = true) →
      i ∈ Region.ready md ops listed → Yld P ops σ oi fr v →
      anyZ P md ops σ K n (listed.setIfInBounds i true) (aput fr oi.dst v) → anyZ P md ops σ K (n + 1) listed fr := by
  intro n
  have self : ∀ {K : List AV → Prop} {fr}, Yld P ops σ oi fr v → K (aput fr oi.dst v) → yOp P ops σ i K fr := fun hy hk => by
    unfold yOp; simp only [hi]; exact ⟨v, hy, hk⟩
  induction n with
  | zero =>
    intro listed fr _ hr hy H
    refine ⟨fun h => (by rw [h] at hr; cases hr), fun j hj => ?_⟩
    obtain rfl := hK _ _ hr H j hj
    exact self hy H
  | succ n ih =>
    intro listed fr hfree hr hy H
    refine ⟨fun h => (by rw [h] at hr; cases hr), fun j hj => ?_⟩
    by_cases hji : j = i
    · subst hji; exact self hy H
    · have h1 := H.2 j (ready_mono hj hji)
      obtain ⟨hjun, oj, hoj, hall⟩ := mem_ready.1 hj
      have hnot : ∀ e ∈ oj.after, Region.binds md e = true → e.on ≠ i := fun e he hb heq => by
        have h1 := hall e he hb
        have h0 := (mem_ready.1 hr).1
        rw [heq] at h1
        rcases Nat.lt_or_ge i listed.size with h' | h'
        · simp [h'] at h0 h1; rw [h0] at h1; cases h1
        · simp [Array.getElem?_eq_none h'] at h1
      have h2 := yOp_put hoj (hfree j oj hoj hji hjun hnot) hy h1
      have hfree' : ∀ k ok, ops[k]? = some ok → k ≠ i → (listed.setIfInBounds j true).getD k true = false →
          (∀ e ∈ ok.after, Region.binds md e = true → e.on ≠ i) → oi.apart ops ok = true := fun k ok hk hki hun hno => by
        refine hfree k ok hk hki ?_ hno
        by_cases hjk : j = k
        · subst hjk; exact hjun
        · rw [getD_set_ne true hjk] at hun; exact hun
      refine yOp_mono (fun fr' h3 => ih (listed.setIfInBounds j true) fr' hfree' (ready_mono hr (Ne.symm hji)) h3.1 ?_) h2
      rw [Array.setIfInBounds_comm _ _ hji]
      exact h3.2
/-- The first n in the order of the text. -/
def preFrom (md : Region.Mode) (ops : Array Oper) : Nat → Nat → Array Bool → Bool
  | 0, _, _ => true
  | n + 1, k, listed => (Region.ready md ops listed).contains k && Region.free md ops listed k && preFrom md ops n (k + 1) (listed.setIfInBounds k true)
def listFrom : Nat → Nat → Array Bool → Array Bool
  | 0, _, listed => listed
  | n + 1, k, listed => listFrom n (k + 1) (listed.setIfInBounds k true)
/-- The others, one by one. -/
def seqFrom (md : Region.Mode) (ops : Array Oper) : Nat → Nat → Array Bool → Bool
  | 0, _, listed => (Region.ready md ops listed).isEmpty
  | n + 1, k, listed => (Region.ready md ops listed == [k]) && seqFrom md ops n (k + 1) (listed.setIfInBounds k true)
/-- It waits for all these. -/
def waits (md : Region.Mode) (ops : Array Oper) (n : Nat) : Bool :=
  match ops[n]? with
  | some o => (List.range n).all fun i => o.after.any fun e => Region.binds md e && e.on == i
  | none => false
theorem anyZ_lex {md : Region.Mode} {K : List AV → Prop} {n : Nat} {L : Array Bool} (hw : waits md ops n = true) (hL : Region.ready md ops L = [n]) : ∀ (l : List Oper) (k : Nat) (listed : Array Bool) (fr : List AV), k + l.length = n → (∀ j, j < l.length → l[j]? = ops[k + j]?) →
    preFrom md ops l.length k listed = true → listFrom l.length k listed = L → YL P ops σ K l fr → anyZ P md ops σ (fun listed fr => listed = L ∧ K fr) l.length listed fr
  | [], k, listed, fr, _, hl, hB, hL', h => ⟨hL', h⟩
  | o :: l, k, listed, fr, hn, hl, hB, hL', h => by
    have h0 : ops[k]? = some o := by simpa using (hl 0 (by simp)).symm
    simp only [List.length_cons, preFrom, Bool.and_eq_true] at hB
    obtain ⟨⟨hr, hf⟩, hB'⟩ := hB
    obtain ⟨r, hy, hk⟩ := h
    refine anyZ_first h0 (fun listed fr hi hK j hj => ?_) l.length listed fr (Region.free_spec h0 hf) (by simpa using hr) hy
      (anyZ_lex hw hL l (k + 1) _ _ (by simp at hn; omega) (fun j hj => by have := hl (j + 1) (by simp; omega); simpa [Nat.add_assoc, Nat.add_comm 1 j] using this) hB' hL' hk)
    by_cases hji : j = k
    · exact hji
    · exfalso
      have h1 := ready_mono hj hji
      rw [hK.1, hL] at h1
      have : j = n := by simpa using h1
      subst this
      obtain ⟨_, oj, hoj, hall⟩ := mem_ready.1 hj
      unfold waits at hw
      rw [hoj] at hw
      simp only [List.all_eq_true, List.mem_range] at hw
      have hkj : k < j := by simp at hn; omega
      obtain ⟨e, he, hb⟩ := Array.any_eq_true'.1 (hw k hkj)
      simp only [Bool.and_eq_true, beq_iff_eq] at hb
      have h2 := hall e he hb.1
      have h3 := (mem_ready.1 hi).1
      rw [hb.2] at h2
      rcases Nat.lt_or_ge k listed.size with h' | h'
      · simp [h'] at h2 h3; rw [h3] at h2; cases h2
      · simp [Array.getElem?_eq_none h'] at h2
theorem wpAny_seq {md : Region.Mode} {Q : Exit → Act → World → Prop} : ∀ (l : List Oper) (k : Nat) (listed : Array Bool) (a : Act) (w : World), (∀ j, l[j]? = ops[k + j]?) → seqFrom md ops l.length k listed = true → wpList P ops Q l a w → wpAny P md ops Q l.length listed a w
  | [], k, listed, a, w, _, hB, h => ⟨by simpa [seqFrom] using hB, h⟩
  | o :: l, k, listed, a, w, hl, hB, h => by
    have h0 : ops[k]? = some o := by simpa using (hl 0).symm
    simp only [List.length_cons, seqFrom, Bool.and_eq_true, beq_iff_eq] at hB
    have ih : ∀ a w, wpList P ops Q l a w → wpAny P md ops Q l.length (listed.setIfInBounds k true) a w := fun a w h => wpAny_seq l (k + 1) _ a w (fun j => by have := hl (j + 1); simpa [Nat.add_assoc, Nat.add_comm 1 j] using this) hB.2 h
    refine ⟨fun e => absurd (hB.1.symm.trans e) (by simp), fun i hi => ?_⟩
    rw [hB.1] at hi
    obtain rfl : i = k := by simpa using hi
    unfold wpOp
    rw [h0]
    unfold wpList at h
    simp only
    split
    · rename_i hw
      rw [if_pos hw] at h
      rcases h with h | h
      · exact .inl (Oper.wp_mono ih h)
      · exact .inr h
    · rename_i hw
      rw [if_neg hw] at h
      exact ih _ _ h
theorem yl_mono {K K' : List AV → Prop} (hk : ∀ fr, K fr → K' fr) : ∀ {l : List Oper} {fr : List AV}, YL P ops σ K l fr → YL P ops σ K' l fr
  | [], _, h => hk _ h
  | _ :: _, _, ⟨r, h1, h2⟩ => ⟨r, h1, yl_mono hk h2⟩
def mixB (md : Region.Mode) (l r : List Oper) : Bool :=
  let ops := (l ++ r).toArray
  let L0 := Array.replicate ops.size false
  let L := listFrom l.length 0 L0
  waits md ops l.length && preFrom md ops l.length 0 L0 && seqFrom md ops r.length l.length L && Region.noSelect ops && !r.isEmpty
theorem aw_mix {id : Nat} (n : Nat) {l : List Oper} (hm : P.follows .mixedOrders = true) (hB : mixB .any (l.take n) (l.drop n) = true) (h : YL P l.toArray σ (fun fr => AWL P D l.toArray Q (l.drop n) fr σ) (l.take n) fr) : AW P D (.region id l.toArray true) Q fr σ := by
  intro G a w hs
  unfold mixB at hB
  simp only [List.take_append_drop, Bool.and_eq_true] at hB
  obtain ⟨⟨⟨⟨h1, h2⟩, h3⟩, h4⟩, h5⟩ := hB
  have hb : Go.RowKit.Below w.heap.size w { w with drawn := w.drawn + 1 } := ⟨rfl, rfl, rfl, Nat.le_refl _, fun _ _ => rfl⟩
  have hs2 : Sim G fr σ D a { w with drawn := w.drawn + 1 } := hs.le (Le.grow hs.w hb) (hs.w.grow hb)
  have hlen : (l.take n).length + (l.drop n).length = l.length := by rw [← List.length_append, List.take_append_drop]
  have hr : Region.ready .any l.toArray (listFrom (l.take n).length 0 (Array.replicate l.toArray.size false)) = [(l.take n).length] := by
    cases hd : l.drop n with
    | nil => rw [hd] at h5; cases h5
    | cons o r =>
      rw [hd] at h3
      simp only [List.length_cons, seqFrom, Bool.and_eq_true, beq_iff_eq] at h3
      exact h3.1
  have hz := anyZ_lex (P := P) (σ := σ) (K := fun fr => AWL P D l.toArray Q (l.drop n) fr σ) h1 hr (l.take n) 0 _ fr (by simp) (fun j hj => by
    have : j < n := by simp at hj; omega
    simp [List.getElem?_take, this]) h2 rfl h
  refine wp_region_any hm ?_
  have hsz : l.toArray.size = (l.drop n).length + (l.take n).length := by simp; omega
  rw [hsz]
  refine wpAny_of_anyZ (fun listed fr hK G1 a1 w1 hs1 G0 w0 hl => ?_) _ _ fr G a _ G w (Le.grow hs.w hb) hs2 (by rw [← hsz]; exact hz)
  obtain ⟨rfl, hK⟩ := hK
  have hk := hK G1 a1 w1 hs1
  have hk2 := wpList_weaken (fun e a w h => lift_le hl h) _ _ _ hk
  refine wpAny_seq (l.drop n) (l.take n).length _ a1 w1 (fun j => ?_) ?_ hk2
  · simp only [List.getElem?_drop, List.length_take, List.getElem?_toArray]
    rcases Nat.le_total n l.length with hh | hh
    · rw [Nat.min_eq_left hh]
    · rw [Nat.min_eq_right hh, List.getElem?_eq_none (by omega), List.getElem?_eq_none (by omega)]
  · exact h3
/-- Does it change what is known? -/
def stOp (mu : List Nat) (o : Oper) : Bool :=
  match o.op with
  | .store _ _ _ => true
  | .alloc _ | .box _ _ | .buildSlice _ _ _ => match o.dst with | some d => mu.contains d | none => false
  | .call c => match c.callee with | .builtin .append => true | .builtin .delete => true | .builtin .copy => true | .builtin .clear => true | _ => false
  | .mapUpdate .. | .entryStore .. | .insert .. => true
  | _ => false
def preSt (mu : List Nat) : List Oper → List Oper
  | [] => []
  | o :: l => if stOp mu o = true then [] else o :: preSt mu l
def postSt (mu : List Nat) : List Oper → List Oper
  | [] => []
  | o :: l => if stOp mu o = true then o :: l else postSt mu l
theorem pre_post (mu : List Nat) : ∀ l : List Oper, preSt mu l = l.take (preSt mu l).length ∧ postSt mu l = l.drop (preSt mu l).length
  | [] => ⟨rfl, rfl⟩
  | o :: l => by
    simp only [preSt, postSt]
    split
    · exact ⟨rfl, rfl⟩
    · simp only [List.length_cons, List.take_succ_cons, List.drop_succ_cons, List.cons.injEq, true_and]
      exact pre_post mu l
theorem aw_ymix {id : Nat} (mu : List Nat) {l : List Oper} (hm : P.follows .mixedOrders = true) (hB : mixB .any (preSt mu l) (postSt mu l) = true) (h : Shut (YRun P l.toArray σ (fun fr => Shut (ARun P D l.toArray Q mu (postSt mu l) fr σ)) (preSt mu l) fr)) : AW P D (.region id l.toArray true) Q fr σ := by
  obtain ⟨e1, e2⟩ := pre_post mu l
  refine aw_mix (preSt mu l).length hm (by rw [← e1, ← e2]; exact hB) ?_
  rw [← e1, ← e2]
  exact yl_mono (fun fr h => awl_run' mu h) (yl_run h.out)
end Go.AL
/-! What is at hand for contracts. -/
namespace Go.AL
set_option linter.unusedVariables false
set_option linter.unusedSimpArgs false

variable {P : Program} {σ : ASt} {R : AV → ASt → Prop} {D : List Deferred} {Q : Exit → List AV → ASt → Prop} {fr : List AV}

attribute [simp] fget fset shut_nil shut_cons gcond aopP awanted aop aev aput AV.okv AV.one AV.cells Value.oneCell' thenA inBlockA noGotoA jumpA ofV aload acells aloadC afield afieldAddr ashift afcmp aconvA aconv bytesOf abinS abin aeqF aeqL aint astr isNilC aisNil apick apick2 ares tupOf alen abuiltin amm aun aindexAddr aindexI aslice abound abuild afill setCells abuildS afillR astore astoreC putCells anilCheck aindexS acallee

abbrev vi (n : Int) : AV := .p (.int .i64 n)
abbrev vb (b : Bool) : AV := .p (.bool b)
abbrev vs (s : ByteArray) : AV := .p (.string s)
abbrev nils : AV := .p (.slice none 0 0)
/-- A list of whole numbers. -/
def ints (l : List Int) : AV := .vsl (l.map vi)

theorem apure_of {f : FuncId} {fn : Func} {c : Code} {n : Nat} {args : List AV} {r : AV} (hf : P.funcs[f]? = some fn) (hn : fn.ntmps = n) (hb : fn.body = some c)
    (h : AW P [] c (RetQ P fn fun r' _ => r' = r) (args ++ List.replicate (n - args.length) (.p undef)) σ0) : APure P f args r := by
  subst hn; exact acall_of_body hf hb h
theorem acall_of {f : FuncId} {fn : Func} {c : Code} {n : Nat} {args : List AV} (hf : P.funcs[f]? = some fn) (hn : fn.ntmps = n) (hb : fn.body = some c)
    (h : AW P [] c (RetQ P fn R) (args ++ List.replicate (n - args.length) (.p undef)) σ) : ACall P f args σ R := by
  subst hn; exact acall_of_body hf hb h
theorem retq {fn : Func} {l : List ResultVar} (hl : fn.results = l.toArray) {rs : List AV} (h : ares P σ fr l = some rs) (hR : R (tupOf rs) σ) : RetQ P fn R .ret fr σ :=
  ret_of (.inr rfl) (by rw [hl]; exact h) (Fin.of hR)
theorem retq1 {fn : Func} {t : Nat} (hl : fn.results = #[.tmp t]) (hR : R (fget fr t) σ) : RetQ P fn R .ret fr σ := retq (l := [.tmp t]) hl rfl hR
theorem retq2 {fn : Func} {t u : Nat} (hl : fn.results = #[.tmp t, .tmp u]) (hR : R (.tup [fget fr t, fget fr u]) σ) : RetQ P fn R .ret fr σ := retq (l := [.tmp t, .tmp u]) hl rfl hR
theorem retq3 {fn : Func} {t u v : Nat} (hl : fn.results = #[.tmp t, .tmp u, .tmp v]) (hR : R (.tup [fget fr t, fget fr u, fget fr v]) σ) : RetQ P fn R .ret fr σ := retq (l := [.tmp t, .tmp u, .tmp v]) hl rfl hR

/-! ### numbers -/
theorem wrap_id {n : Int} (h1 : -9223372036854775808 ≤ n) (h2 : n ≤ 9223372036854775807) : IntKind.i64.wrap n = n := by
  have e1 : (2 : Int) ^ IntKind.i64.bits = 18446744073709551616 := by decide
  have e2 : (2 : Int) ^ (IntKind.i64.bits - 1) = 9223372036854775808 := by decide
  have e3 : IntKind.i64.signed = true := rfl
  unfold IntKind.wrap
  simp only [e1, e2, e3, Bool.true_and, ge_iff_le, decide_eq_true_eq]
  split <;> omega
end Go.AL
/-! Loops: what a frame keeps. -/
namespace Go.AL
set_option linter.unusedVariables false
set_option linter.unusedSimpArgs false

variable {P : Program} {σ : ASt} {D : List Deferred} {Q : Exit → List AV → ASt → Prop} {fr : List AV}

attribute [simp] shut_ynil shut_ycons stOp preSt postSt

/-- Of the slots, those named stay known. -/
def keep (ks : List Nat) : Nat → List AV → List AV
  | _, [] => []
  | i, v :: l => (if ks.contains i then v else .any) :: keep ks (i + 1) l
theorem keep_get (ks : List Nat) : ∀ (l : List AV) (i t : Nat), fget (keep ks i l) t = fget l t ∨ fget (keep ks i l) t = .any
  | [], _, _ => .inl rfl
  | v :: l, i, 0 => by simp only [keep, fget]; split <;> simp
  | v :: l, i, t + 1 => by simp only [keep, fget]; exact keep_get ks l (i + 1) t
theorem keep_len (ks : List Nat) : ∀ (l : List AV) (i : Nat), (keep ks i l).length = l.length
  | [], _ => rfl
  | v :: l, i => by simp [keep, keep_len ks l]
theorem keep_idx (ks : List Nat) : ∀ (l : List AV) (i j : Nat) (c : AV), (keep ks i l)[j]? = some c → l[j]? = some c ∨ c = .any
  | [], _, _, _, h => by simp [keep] at h
  | v :: l, i, 0, c, h => by
    simp only [keep, List.getElem?_cons_zero, Option.some.injEq] at h
    split at h
    · exact .inl (by simp [h])
    · exact .inr h.symm
  | v :: l, i, j + 1, c, h => by
    simp only [keep, List.getElem?_cons_succ] at h ⊢
    exact keep_idx ks l (i + 1) j c h
theorem keep_keep (ks : List Nat) : ∀ (l : List AV) (i : Nat), keep ks i (keep ks i l) = keep ks i l
  | [], _ => rfl
  | v :: l, i => by
    simp only [keep, List.cons.injEq]
    refine ⟨?_, keep_keep ks l (i + 1)⟩
    split <;> rfl
theorem Sim.keep {G D a w} (ks : List Nat) (h : Sim G fr σ D a w) : Sim G (keep ks 0 fr) σ D a w := by
  refine ⟨⟨by rw [keep_len]; exact h.tmps.1, fun i c v hc hv => ?_⟩, h.defers, h.w⟩
  rcases keep_idx ks fr 0 i c hc with e | rfl
  · exact h.tmps.2 i c v e hv
  · exact .any _
theorem aw_keep {c : Code} (ks : List Nat) (h : AW P D c Q (keep ks 0 fr) σ) : AW P D c Q fr σ := fun G a w hs => h G a w (hs.keep ks)
/-- A frame of so many slots, of which these are known. -/
def frm (n : Nat) (ps : List (Nat × AV)) : List AV := ps.foldl (fun l p => fset l p.1 p.2) (List.replicate n .any)
theorem aw_loopK {c : Code} (ks : List Nat) (I : Nat → List AV → ASt → Prop) (n : Nat) (h0 : I n (keep ks 0 fr) σ)
    (round : ∀ n fr σ, I n fr σ → AW P D c (thenA (fun fr' σ' => ∃ m, m < n ∧ I m (keep ks 0 fr') σ') Q) fr σ) : AW P D (.loop c) Q fr σ := by
  refine aw_keep ks (aw_loop (fun n fr σ => I n (keep ks 0 fr) σ) n ?_ fun n fr σ h => ?_)
  · rw [keep_keep]; exact h0
  · exact aw_keep ks (round n _ σ h)
end Go.AL
/-! An operation of plain values that the evaluator doesn't know: by the machine's own run. -/
namespace Go.AL
set_option linter.unusedVariables false
set_option linter.unusedSimpArgs false

variable {P : Program} {σ : ASt} {R : AV → ASt → Prop} {D : List Deferred} {Q : Exit → List AV → ASt → Prop} {fr : List AV} {ops : Array Oper}

theorem opq_conc {o : Oper} {ρ : Operand → AV} {v : Value} (h : ∀ (e : Operand → Value) w, (∀ x y, ρ x = .p y → e x = y) → (execOp e o).run P w = .ok (.value v) w) : OpQ P o ρ σ fun r' σ' => r' = .p v ∧ σ' = σ := by
  intro G e w he hw
  rw [h e w fun x y hxy => by have := he x; rw [hxy] at this; generalize e x = u at this; cases this; rfl]
  exact ⟨.p v, G, σ, Le.refl _ _, hw, .p v, rfl, rfl⟩
theorem awl_conc {o : Oper} {rest : List Oper} (hw : awanted ops o fr = some true) (v : Value) (h : ∀ (e : Operand → Value) w, (∀ x y, aev fr x = .p y → e x = y) → (execOp e o).run P w = .ok (.value v) w)
    (hk : AWL P D ops Q rest (aput fr o.dst (.p v)) σ) : AWL P D ops Q (o :: rest) fr σ :=
  awl_cons hw ((opq_conc h).mono fun r' σ' ⟨e1, e2⟩ => by subst e1; subst e2; exact hk)
theorem yl_conc {K : List AV → Prop} {o : Oper} {rest : List Oper} (hg : o.guard = none) (v : Value) (h : ∀ (e : Operand → Value) w, (∀ x ∈ o.op.operands, ∀ y, aev fr x = .p y → e x = y) → (execOp e o).run P w = .ok (.value v) w)
    (hk : Shut (YRun P ops σ K rest (aput fr o.dst (.p v)))) : YL P ops σ K (o :: rest) fr :=
  ⟨.p v, yld_opq hg fun ρ hρ G e w he hw => by
    rw [h e w fun x hx y hxy => by
      have := he x
      rw [hρ x hx, hxy] at this
      generalize e x = u at this
      cases this; rfl]
    exact ⟨.p v, G, σ, Le.refl _ _, hw, .p v, rfl, rfl⟩, yl_run hk.out⟩
/-- A pure call, next in a run. -/
theorem awl_pure' {o : Oper} {rest : List Oper} {f : Operand} {aa : Array Operand} {ts : Array TypeId} (mu : List Nat) (ho : o.op = .call { callee := .value f, args := aa, argTypes := ts }) (hw : awanted ops o fr = some true)
    {F : FuncId} {first cap : List AV} (hf : acallee (aev fr f) = some (F, first, cap)) (hc : callable P F = true) {args : List AV} (ha : first ++ aa.toList.map (aev fr) ++ cap = args) {r : AV} (h : APure P F args r) (hcl : ∀ a ∈ args, Cl a) (hr : Cl r)
    (hk : Shut (ARun P D ops Q mu rest (aput fr o.dst r) σ)) : AWL P D ops Q (o :: rest) fr σ :=
  awl_pure ho hw hf hc ha h hcl hr (awl_run' mu hk)

/-- A guarded one, next in a run. -/
theorem awl_opq_guard {o : Oper} {rest : List Oper} {c : Bool} (hc : gcond ops o fr = some c) {r : AV} (h : c = true → OpQ P o (fun x => strip c (aev fr x)) σ fun r' σ' => r' = r ∧ σ' = σ) (hk : AWL P D ops Q rest (aput fr o.dst (.opt c r)) σ) : AWL P D ops Q (o :: rest) fr σ := by
  intro G a w hs
  have hw := gcond_spec hc hs
  unfold wpList
  cases c with
  | false =>
    rw [if_neg (by rw [hw]; simp)]
    exact hk G (a.put o.dst undef) w (hs.put o.dst (.opt false r undef (fun e => by cases e) (fun _ => rfl)))
  | true =>
    rw [if_pos hw]
    refine .inl ?_
    have hq := h rfl G a.eval w (fun x => strip_rep rfl (hs.ev x)) hs.w
    unfold Oper.wp
    have key : ∀ v w', Outc G w (fun r' σ' => r' = r ∧ σ' = σ) v w' → wpList P ops (lift G w D Q) rest (a.put o.dst v) w' := by
      rintro v w' ⟨r', G', σ', hl, hw', hr, rfl, rfl⟩
      have := hk G' (a.put o.dst v) w' ((hs.le hl hw').put o.dst (.opt true r' v (fun _ => hr) (fun e => by cases e)))
      exact wpList_weaken (fun e a w h => lift_le hl h) rest _ _ this
    generalize (execOp a.eval o).run P w = n at hq
    cases n with
    | halt => exact hq.elim
    | ok n w' =>
      cases n with
      | value v => exact key v w' hq
      | skip => exact key undef w' hq
      | enter f args =>
        refine Calls.mono hq fun e w'' he => ?_
        cases e with
        | returned v => exact key v w'' he
        | panicked c => exact he.elim
        | outgrown => exact he.elim
      | _ => exact hq.elim
/-- Without its guard. -/
def peel : AV → AV
  | .opt _ v => v
  | v => v
def okS (c : Bool) : AV → Bool
  | .opt b _ => impB c b
  | _ => true
theorem strip_peel {c : Bool} {x : AV} (h : okS c x = true) : strip c x = peel x := by
  cases x with
  | opt b v => simp only [strip, peel]; rw [show impB c b = true from h]; rfl
  | _ => rfl
theorem strip_mapL {c : Bool} {l : List Operand} (h : ∀ x ∈ l, okS c (aev fr x) = true) : (l.map fun x => strip c (aev fr x)) = l.map fun x => peel (aev fr x) :=
  List.map_congr_left fun x hx => strip_peel (h x hx)
theorem awl_pure_guard {o : Oper} {rest : List Oper} {f : Operand} {aa : Array Operand} {ts : Array TypeId} (mu : List Nat) (ho : o.op = .call { callee := .value f, args := aa, argTypes := ts }) {c : Bool} (hg : gcond ops o fr = some c)
    {F : FuncId} {first cap : List AV} (hf : acallee (peel (aev fr f)) = some (F, first, cap)) (hc : callable P F = true) {args : List AV} (ha : first ++ aa.toList.map (fun x => peel (aev fr x)) ++ cap = args) {r : AV} (h : c = true → APure P F args r)
    (hok : okS c (aev fr f) = true ∧ ∀ x ∈ aa.toList, okS c (aev fr x) = true) (hcl : ∀ a ∈ args, Cl a) (hr : Cl r)
    (hk : Shut (ARun P D ops Q mu rest (aput fr o.dst (.opt c r)) σ)) : AWL P D ops Q (o :: rest) fr σ :=
  awl_opq_guard hg (fun e => opq_pure ho (by rw [strip_peel hok.1]; exact hf) hc (by rw [strip_mapL hok.2]; exact ha) (h e) hcl hr fun _ _ => rfl) (awl_run' mu hk)
theorem yl_pureG {K : List AV → Prop} {o : Oper} {rest : List Oper} {f : Operand} {aa : Array Operand} {ts : Array TypeId} (ho : o.op = .call { callee := .value f, args := aa, argTypes := ts }) {c : Bool} (hg : gcond ops o fr = some c)
    {F : FuncId} {first cap : List AV} (hf : acallee (peel (aev fr f)) = some (F, first, cap)) (hc : callable P F = true) {args : List AV} (ha : first ++ aa.toList.map (fun x => peel (aev fr x)) ++ cap = args) {r : AV} (h : c = true → APure P F args r)
    (hok : okS c (aev fr f) = true ∧ ∀ x ∈ aa.toList, okS c (aev fr x) = true) (hcl : ∀ a ∈ args, Cl a) (hr : Cl r)
    (hk : Shut (YRun P ops σ K rest (aput fr o.dst (.opt c r)))) : YL P ops σ K (o :: rest) fr :=
  yl_pure_guard ho hg (by rw [strip_peel hok.1]; exact hf) hc (by rw [strip_mapL hok.2]; exact ha) h hcl hr hk
attribute [simp] okS peel
theorem awl_skip' {o : Oper} {rest : List Oper} (mu : List Nat) (hw : awanted ops o fr = some false) (hk : Shut (ARun P D ops Q mu rest (aput fr o.dst (.p undef)) σ)) : AWL P D ops Q (o :: rest) fr σ := awl_skip hw (awl_run' mu hk)
@[simp high] theorem apick2_true (x y : AV) : apick2 true x y = x := by unfold apick2; split <;> simp [bpick]
@[simp high] theorem apick2_false (x y : AV) : apick2 false x y = y := by unfold apick2; split <;> simp [bpick]
/-! ### what is closed -/
@[simp] theorem cl_p (x : Value) : Cl (.p x) := .p x
@[simp] theorem cl_any : Cl .any := .any
@[simp] theorem cl_agg (l : List AV) : Cl (.agg l) ↔ ∀ c ∈ l, Cl c := ⟨fun h => by cases h; assumption, .agg l⟩
@[simp] theorem cl_tup (l : List AV) : Cl (.tup l) ↔ ∀ c ∈ l, Cl c := ⟨fun h => by cases h; assumption, .tup l⟩
@[simp] theorem cl_vsl (l : List AV) : Cl (.vsl l) ↔ ∀ c ∈ l, Cl c := ⟨fun h => by cases h; assumption, .vsl l⟩
@[simp] theorem cl_vel (l : List AV) (i o : Nat) : Cl (.vel l i o) ↔ ∀ c ∈ l, Cl c := ⟨fun h => by cases h; assumption, .vel l i o⟩
@[simp] theorem cl_ifc (t : TypeId) (v : AV) : Cl (.ifc t v) ↔ Cl v := ⟨fun h => by cases h; assumption, .ifc t v⟩
@[simp] theorem cl_opt (b : Bool) (v : AV) : Cl (.opt b v) ↔ Cl v := ⟨fun h => by cases h; assumption, .opt b v⟩
@[simp] theorem cl_fn (f : Fn) (a b : List AV) : Cl (.fn f a b) ↔ (∀ c ∈ a, Cl c) ∧ ∀ c ∈ b, Cl c := ⟨fun h => by cases h with | fn _ _ _ h1 h2 => exact ⟨h1, h2⟩, fun h => .fn f a b h.1 h.2⟩
@[simp] theorem σ0_next : σ0.next = 0 := rfl
end Go.AL
/-! Lists that grow. -/
namespace Go.AL
set_option linter.unusedVariables false
set_option linter.unusedSimpArgs false

variable {P : Program} {σ : ASt} {R : AV → ASt → Prop} {D : List Deferred} {Q : Exit → List AV → ASt → Prop} {fr : List AV} {ops : Array Oper}

/-- One slice of the function's own, and nothing else. -/
def oneSl (k : Nat) (xs : List AV) (n : Nat) : ASt := ⟨fun _ => none, fun _ => none, fun b => if b = k then some xs else none, n⟩
theorem le_oneSl {k : Nat} {xs : List AV} {n : Nat} (h : σ.sl k = some xs) (hn : σ.next ≤ n) : (oneSl k xs n).Le σ where
  bx := fun _ _ e => nomatch e
  mp := fun _ _ e => nomatch e
  sl := fun b cs e => by
    simp only [oneSl] at e
    split at e
    · rename_i hb; subst hb; rw [h]; exact e
    · cases e
  next := hn
@[simp] theorem oneSl_sl (k : Nat) (xs : List AV) (n b : Nat) : (oneSl k xs n).sl b = if b = k then some xs else none := rfl
@[simp] theorem oneSl_bx (k : Nat) (xs : List AV) (n b : Nat) : (oneSl k xs n).bx b = none := rfl
@[simp] theorem oneSl_mp (k : Nat) (xs : List AV) (n b : Nat) : (oneSl k xs n).mp b = none := rfl
attribute [simp] ASt.addBx ASt.addMp ASt.addSl ASt.dropSl upd asrc undef
@[simp] theorem oneSl_next (k : Nat) (xs : List AV) (n : Nat) : (oneSl k xs n).next = n := rfl
theorem aw_weak {c : Code} {τ : ASt} (l : τ.Le σ) (h : AW P D c Q fr τ) : AW P D c Q fr σ := fun G a w hs => h G a w (hs.less l)
theorem aw_loopW {c : Code} (ks : List Nat) (I : Nat → List AV → ASt → Prop) (n : Nat) (h0 : ∃ τ, ASt.Le τ σ ∧ I n (keep ks 0 fr) τ)
    (round : ∀ n fr σ, I n fr σ → AW P D c (thenA (fun fr' σ' => ∃ m, m < n ∧ ∃ τ, ASt.Le τ σ' ∧ I m (keep ks 0 fr') τ) Q) fr σ) : AW P D (.loop c) Q fr σ := by
  refine aw_loop (fun n fr σ => ∃ τ, ASt.Le τ σ ∧ I n (keep ks 0 fr) τ) n h0 fun n fr σ h => ?_
  obtain ⟨τ, hl, hI⟩ := h
  exact aw_weak hl (aw_keep ks (round n _ τ hI))
theorem awl_append {o : Oper} {rest : List Oper} {s x : Operand} {t el : TypeId} (mu : List Nat) (ho : o.op = .call { callee := .builtin .append, args := #[s, x], argTypes := #[t, t] }) (hw : awanted ops o fr = some true) {b off k : Nat} {xs ys : List AV} {n by_ : Nat} {g : Bool} {z : AV}
    (hs : aev fr s = .hsl b off k) (hb : σ.sl b = some xs) (hk : off + k ≤ xs.length) (hx : asrc σ (aev fr x) = some ys) (hne : ys ≠ []) (ht : telem P t = some (n, g, by_)) (hel : telemT P t = some el) (hz : tzero P el = some z) (hzn : z.cells.length = n)
    (hxs : ∀ y ∈ xs, y.cells.length = n) (hys : ∀ y ∈ ys, y.cells.length = n ∧ y.okv = true) (hB : (k + ys.length) * by_ ≤ 140737488355328) (hS : k + ys.length ≤ 9223372036854775807)
    (hk2 : Shut (ARun P D ops Q mu rest (aput fr o.dst (.hsl σ.next 0 (k + ys.length))) ((σ.dropSl b).addSl ((xs.drop off).take k ++ ys)))) : AWL P D ops Q (o :: rest) fr σ :=
  awl_cons hw (opq_append ho hs hb hk hx hne ht hel hz hzn hxs hys hB hS (awl_run' mu hk2))
/-- Some boxes and slices of the function's own, by their numbers, and nothing else. -/
def mkSt (bs ss : List (Nat × List AV)) (n : Nat) : ASt := ⟨fun b => bs.lookup b, fun _ => none, fun b => ss.lookup b, n⟩
theorem lookup_mem {α : Type} : ∀ {l : List (Nat × α)} {b : Nat} {c : α}, l.lookup b = some c → (b, c) ∈ l
  | [], _, _, h => by cases h
  | (x, y) :: l, b, c, h => by
    rw [List.lookup_cons] at h
    split at h
    · rename_i hb
      obtain rfl := Option.some.inj h
      obtain rfl : b = x := by simpa using hb
      exact List.mem_cons_self
    · exact List.mem_cons_of_mem _ (lookup_mem h)
theorem le_mkSt {bs ss : List (Nat × List AV)} {n : Nat} (h1 : ∀ p ∈ bs, σ.bx p.1 = some p.2) (h2 : ∀ p ∈ ss, σ.sl p.1 = some p.2) (hn : σ.next ≤ n) : (mkSt bs ss n).Le σ where
  bx := fun b cs e => h1 (b, cs) (lookup_mem e)
  mp := fun _ _ e => nomatch e
  sl := fun b cs e => h2 (b, cs) (lookup_mem e)
  next := hn
@[simp] theorem mkSt_bx (bs ss : List (Nat × List AV)) (n b : Nat) : (mkSt bs ss n).bx b = bs.lookup b := rfl
@[simp] theorem mkSt_sl (bs ss : List (Nat × List AV)) (n b : Nat) : (mkSt bs ss n).sl b = ss.lookup b := rfl
@[simp] theorem mkSt_mp (bs ss : List (Nat × List AV)) (n b : Nat) : (mkSt bs ss n).mp b = none := rfl
@[simp] theorem mkSt_next (bs ss : List (Nat × List AV)) (n : Nat) : (mkSt bs ss n).next = n := rfl
/-- No slice is the empty one. -/
theorem Fin.vnil {c : Nat} (h : Fin R (.vsl []) σ) : Fin R (.p (.slice none 0 c)) σ := fun G w v hw hr => h G w v hw (by cases hr; exact .vnil none c)
theorem ff_tt {C : Prop} (h : false = true) : C := nomatch h
theorem tt_ff {C : Prop} (h : true = false) : C := nomatch h
end Go.AL
/-! From a contract to the machine's own call. -/
namespace Go.AL
open Go.RowKit (Below)
set_option linter.unusedVariables false
/-- All that was there at first stays. -/
def G0 (w : World) : Ghost := ⟨w.heap.size, fun β _ => β < w.heap.size, fun _ => none, fun _ => none, fun _ => none⟩
theorem repL_nil {G : Ghost} {w : World} : RepL G w [] [] := ⟨rfl, fun i c v h => by cases h⟩
theorem repL_cons {G : Ghost} {w : World} {c : AV} {v : Value} {cs : List AV} {vs : List Value} (h : Rep G w c v) (t : RepL G w cs vs) : RepL G w (c :: cs) (v :: vs) :=
  ⟨by simp [t.1], fun i c' v' a b => by
    cases i with
    | zero => cases a; cases b; exact h
    | succ i => exact t.2 i c' v' a b⟩
theorem rep_agg {G : Ghost} {w : World} {cs : List AV} {vs : List Value} (h : RepL G w cs vs) : Rep G w (.agg cs) (.agg vs.toArray) :=
  .agg cs _ (by simp [h.1]) fun i c v a b => h.2 i c v a (by simpa using b)
theorem simW_G0 {w : World} (hI : Init w) : SimW (G0 w) σ0 w where
  base := ⟨Nat.le_refl _, w, hI, Nat.le_refl _, Below.refl _ _⟩
  bx := fun _ _ e => nomatch e
  mp := fun _ _ e => nomatch e
  sl := fun _ _ e => nomatch e
  own := fun β k ho => by cases ho <;> rename_i e _ <;> cases e
  stIn := fun _ _ h => h
  fresh := fun _ _ => ⟨rfl, rfl, rfl, rfl, rfl, rfl⟩
theorem APure.calls {P : Program} {f : FuncId} {args : List AV} {vs : Array Value} {r : Value} (h : APure P f args (.p r)) {w : World} (hI : Init w) (hv : RepL (G0 w) w args vs.toList) :
    Calls P f vs w fun e w' => e = .returned r ∧ Below w.heap.size w w' := by
  refine Calls.mono (h (G0 w) w vs hv (simW_G0 hI)) fun e w' he => ?_
  cases e with
  | returned v =>
    obtain ⟨r', G1, σ1, hl, _, hr, rfl⟩ := (show Outc (G0 w) w _ v w' from he)
    cases hr
    exact ⟨rfl, hl.below⟩
  | _ => exact he.elim
end Go.AL
/-! Maps. -/
namespace Go.AL
open Go.RowKit (Below)
set_option linter.unusedVariables false
set_option linter.unusedSimpArgs false

variable {P : Program} {σ : ASt} {R : AV → ASt → Prop} {o : Oper} {ρ : Operand → AV} {D : List Deferred} {Q : Exit → List AV → ASt → Prop} {fr : List AV} {ops : Array Oper}

/-- A key's kind, and the elements' type. -/
def tmap (P : Program) (t : TypeId) : Option (TypeDesc × TypeId) :=
  match P.underlying t with
  | some (.map k e) => match P.underlying k with
    | some .string => some (.string, e)
    | some .bool => some (.bool, e)
    | some (.int ik) => some (.int ik, e)
    | _ => none
  | _ => none
def keyD : TypeDesc → Bool
  | .string | .bool | .int _ => true
  | _ => false
theorem tmap_spec {t : TypeId} {d : TypeDesc} {el : TypeId} (h : tmap P t = some (d, el)) : ∃ k, P.underlying t = some (.map k el) ∧ P.underlying k = some d ∧ keyD d = true := by
  unfold tmap at h
  split at h
  · rename_i k e hk
    split at h
    · rename_i hd; simp only [Option.some.injEq, Prod.mk.injEq] at h; obtain ⟨rfl, rfl⟩ := h; exact ⟨k, hk, hd, rfl⟩
    · rename_i hd; simp only [Option.some.injEq, Prod.mk.injEq] at h; obtain ⟨rfl, rfl⟩ := h; exact ⟨k, hk, hd, rfl⟩
    · rename_i ik hd; simp only [Option.some.injEq, Prod.mk.injEq] at h; obtain ⟨rfl, rfl⟩ := h; exact ⟨k, hk, hd, rfl⟩
    · cases h
  · cases h
theorem run_checkKey {k : TypeId} {d : TypeDesc} (hk : P.underlying k = some d) (hd : keyD d = true) (b : Bool) (n : Nat) (v : Value) (w : World) : (Instr.checkKey b (n + 1) k v).run P w = .ok () w := by
  unfold Instr.checkKey
  rw [Sem.run_bind, run_underlying' hk, Result.andThen_ok]
  cases d <;> first | (cases v <;> rfl) | cases hd
/-- Are two keys one? -/
def akey (d : TypeDesc) (a b : AV) : Option Bool :=
  match d, a, b with
  | .int _, .p (.int k a), .p (.int k' b) => if k = k' then some (decide (a = b)) else none
  | .string, .p (.string a), .p (.string b) => some (decide (a = b))
  | .bool, .p (.bool a), .p (.bool b) => some (decide (a = b))
  | _, _, _ => none
theorem beq_bytes (a b : ByteArray) : (a == b) = decide (a = b) := by
  obtain ⟨x⟩ := a
  obtain ⟨y⟩ := b
  show (x == y) = _
  rw [Bool.eq_iff_iff]
  simp
theorem akey_spec {d : TypeDesc} {x : Value} {k : AV} {b : Bool} (h : akey d (.p x) k = some b) : ∃ y, k = .p y ∧ Instr.sameNow d x y = some b ∧ (b = true → x = y) := by
  unfold akey at h
  split at h
  · rename_i hx; cases hx
    split at h
    · rename_i hk; subst hk
      obtain rfl := Option.some.inj h
      exact ⟨_, rfl, by simp [Instr.sameNow]; rfl, fun hh => by rw [of_decide_eq_true hh]⟩
    · cases h
  · rename_i hx; cases hx
    obtain rfl := Option.some.inj h
    exact ⟨_, rfl, by simp [Instr.sameNow, beq_bytes], fun hh => by rw [of_decide_eq_true hh]⟩
  · rename_i hx; cases hx
    obtain rfl := Option.some.inj h
    exact ⟨_, rfl, by simp [Instr.sameNow]; rfl, fun hh => by rw [of_decide_eq_true hh]⟩
  · cases h
def amfind (d : TypeDesc) (k : AV) : List (AV × AV) → Nat → Option (Option (Nat × AV))
  | [], _ => some none
  | e :: es, i =>
    match akey d k e.1 with
    | some true => some (some (i, e.2))
    | some false => amfind d k es (i + 1)
    | none => none
theorem findNow_spec {G : Ghost} {w : World} {d : TypeDesc} {kv : Value} : ∀ (es : List (AV × AV)) (ents : List MapEntry) (i : Nat) (r : Option (Nat × AV)), es.length = ents.length →
    (∀ (n : Nat) k x (e : MapEntry), es[n]? = some (k, x) → ents[n]? = some e → Rep G w k e.key ∧ Rep G w x e.val) → amfind d (.p kv) es i = some r →
    match r with
    | none => Instr.findNow d kv ents i = some none
    | some (j, x) => ∃ e, i ≤ j ∧ ents[j - i]? = some e ∧ Rep G w x e.val ∧ Instr.findNow d kv ents i = some (some (j, e.val))
  | [], [], i, r, _, _, h => by
    obtain rfl := Option.some.inj h
    rfl
  | (k, x) :: es, e :: ents, i, r, hl, hr, h => by
    obtain ⟨h1, h2⟩ := hr 0 k x e rfl rfl
    have hk : ∀ b, akey d (.p kv) k = some b → Instr.sameNow d kv e.key = some b := by
      intro b hb
      obtain ⟨y, rfl, hs, _⟩ := akey_spec hb
      cases h1
      exact hs
    unfold amfind at h
    simp only at h
    cases hq : akey d (.p kv) k with
    | none => rw [hq] at h; cases h
    | some b =>
      rw [hq] at h
      have hb := hk b hq
      cases b with
      | true =>
        obtain rfl := Option.some.inj h
        refine ⟨e, Nat.le_refl _, by simp, h2, ?_⟩
        unfold Instr.findNow
        rw [hb]
      | false =>
        have ih := findNow_spec es ents (i + 1) r (by simpa using hl) (fun n k x e a b => hr (n + 1) k x e a b) h
        cases r with
        | none =>
          show Instr.findNow d kv (e :: ents) i = some none
          unfold Instr.findNow
          rw [hb]
          exact ih
        | some jx =>
          obtain ⟨j, y⟩ := jx
          obtain ⟨e', hij, he, hre, hf⟩ := ih
          refine ⟨e', by omega, ?_, hre, ?_⟩
          · rw [show j - i = (j - (i + 1)) + 1 by omega]; exact he
          · unfold Instr.findNow
            rw [hb]
            exact hf
theorem run_findKey {k : TypeId} {d : TypeDesc} (hk : P.underlying k = some d) {kv : Value} {ents : List MapEntry} {r : Option (Nat × Value)} (h : Instr.findNow d kv ents 0 = some r) (w : World) : (Instr.findKey k kv ents).run P w = .ok r w := by
  simp [Instr.findKey, run_underlying' hk, h]
theorem opq_makeMap {t : TypeId} (ho : o.op = .makeMap t none) (hr : R (.map σ.next) (σ.addMp [])) : OpQ P o ρ σ R := by
  intro G e w he hw
  have hb := below_alloc' w (.map #[] 0)
  have run : (execOp e o).run P w = .ok (.value (.map (some w.heap.size))) (w.alloc (.map #[] 0)) := by
    simp only [execOp, ho, Instr.makeMap, Option.map_none]
    rfl
  rw [run]
  exact ⟨_, _, _, Le.addMp hw hb w.heap.size, hw.addMp hb (Nat.le_refl _) (fun _ => .inl ⟨w.heap.size, #[], 0, upd_same _ _ _, heap_alloc_new w _, rfl, by simp, by simp⟩), .map _ _ (upd_same _ _ _), hr⟩
theorem mp_map {G : Ghost} {w : World} {b : Nat} {es : List (AV × AV)} {d : TypeDesc} {kv : Value} {r : Option (Nat × AV)} (h : MpOK G w b es) (hf : amfind d (.p kv) es 0 = some r) :
    ∃ μ ents clock, G.mp b = some μ ∧ w.heap[μ]? = some (.map ents clock) ∧ ents.size = es.length ∧
    (∀ (i : Nat) k x (e : MapEntry), es[i]? = some (k, x) → ents[i]? = some e → Rep G w k e.key ∧ Rep G w x e.val ∧ e.born < clock) ∧ (∀ (i j : Nat) (e e' : MapEntry), ents[i]? = some e → ents[j]? = some e' → e.born = e'.born → i = j) := by
  rcases h with h | ⟨μ, s, pos, _, _, rfl⟩
  · exact h
  · unfold itE amfind at hf
    have : akey d (.p kv) noV = none := by unfold akey; cases d <;> cases kv <;> rfl
    simp only [this] at hf
    cases hf
theorem run_setIter {w : World} {r : Nat} {s : ByteArray} {pos : Nat} {o' : Obj} (h : w.heap[r]? = some (.stringIter s pos)) : ∃ w', (setObj r o').run P w = .ok () w' ∧ Touch w w' r ∧ w'.heap[r]? = some o' := by
  refine ⟨{ w with heap := w.heap.set! r o' }, ?_, ⟨rfl, rfl, rfl, by simp, fun k hk => ?_⟩, ?_⟩
  · simp [setObj, Sem.run, h]
  · simp [Array.getElem?_setIfInBounds_ne (fun e => hk e.symm)]
  · obtain ⟨hr, _⟩ := Array.getElem?_eq_some_iff.1 h
    simp [hr]
theorem opq_range {t : TypeId} {x : Operand} (ho : o.op = .range t x) (ht : isString P t = true) {s : ByteArray} (hx : ρ x = .p (.string s)) (hr : R (.it σ.next) (σ.addMp (itE s 0))) : OpQ P o ρ σ R := by
  intro G e w he hw
  have hx' := he x
  rw [hx] at hx'
  generalize hex : e x = vx at hx'
  cases hx'
  have hu := isString_spec ht
  have hb := below_alloc' w (.stringIter s 0)
  have run : (execOp e o).run P w = .ok (.value (.pointer (some ⟨w.heap.size, 0, none⟩))) (w.alloc (.stringIter s 0)) := by
    simp only [execOp, ho, Instr.range, hex, Sem.run_bind, run_underlying' hu, Result.andThen_ok]
    rfl
  rw [run]
  exact ⟨_, _, _, Le.addMp hw hb w.heap.size, hw.addMp hb (Nat.le_refl _) (fun _ => .inr ⟨w.heap.size, s, 0, upd_same _ _ _, heap_alloc_new w _, rfl⟩), .it _ _ (upd_same _ _ _), hr⟩
theorem run_getObj_iter {w : World} {r : Nat} {s : ByteArray} {pos : Nat} (h : w.heap[r]? = some (.stringIter s pos)) : (getObj r).run P w = .ok (.stringIter s pos) w := by
  simp [getObj, Sem.run, h]
theorem itE_inj {s s' : ByteArray} {p p' : Nat} (h : itE s p = itE s' p') : s = s' ∧ p = p' := by
  unfold itE at h
  simp at h
  exact ⟨h.1, by omega⟩
theorem mp_it {G : Ghost} {w : World} {b : Nat} {s : ByteArray} {pos : Nat} (h : MpOK G w b (itE s pos)) : ∃ μ, G.mp b = some μ ∧ w.heap[μ]? = some (.stringIter s pos) := by
  rcases h with ⟨μ, ents, clock, h1, h2, h3, h4, h5⟩ | ⟨μ, s', pos', h1, h2, h3⟩
  · have hl : ents.size = 1 := h3
    obtain ⟨e, he⟩ : ∃ e, ents[0]? = some e := ⟨ents[0], by simp [hl]⟩
    exact (noV_rep (h4 0 _ _ e rfl he).1).elim
  · obtain ⟨rfl, rfl⟩ := itE_inj h3
    exact ⟨μ, h1, h2⟩
theorem opq_next {x : Operand} (ho : o.op = .next x true) {m : Nat} (hx : ρ x = .it m) {s : ByteArray} {pos : Nat} (hm : σ.mp m = some (itE s pos))
    (h1 : pos < s.size → R (.tup [.p (.bool true), .p (.int .i64 (pos : Int)), .p (.int .i32 (Utf8.decode s pos).1)]) { σ with mp := upd σ.mp m (some (itE s (pos + (Utf8.decode s pos).2))) })
    (h2 : ¬ pos < s.size → R (.tup [.p (.bool false)]) σ) : OpQ P o ρ σ R := by
  intro G e w he hw
  have hx' := he x
  rw [hx] at hx'
  obtain ⟨μ, g, hh⟩ := mp_it (hw.mp m _ hm)
  generalize hex : e x = vx at hx'
  obtain ⟨μ', rfl, g2⟩ : ∃ μ', vx = .pointer (some ⟨μ', 0, none⟩) ∧ G.mp m = some μ' := by cases hx'; exact ⟨_, rfl, by assumption⟩
  obtain rfl := Option.some.inj (g.symm.trans g2)
  by_cases hp : pos < s.size
  · obtain ⟨w', hset, htouch, hh'⟩ := run_setIter (P := P) (o' := .stringIter s (pos + (Utf8.decode s pos).2)) hh
    have run : (execOp e o).run P w = .ok (.value (.tuple #[.bool true, .int .i64 (pos : Int), .int .i32 (Utf8.decode s pos).1])) w' := by
      simp only [execOp, ho, Instr.next, hex, Sem.run_bind, run_getObj_iter hh, Result.andThen_ok, if_pos hp, hset, Sem.run_pure, goInt]
    rw [run]
    have hown : Owns G σ μ (1, m) := .mp m μ _ hm g
    have hl := Le.touch hw hown htouch
    refine ⟨_, G, _, hl, hw.touch_mp hm g htouch (fun _ => .inr ⟨μ, s, _, g, hh', rfl⟩), .tup _ _ rfl fun i c v a b => ?_, h1 hp⟩
    match i, a, b with
    | 0, a, b => cases a; cases b; exact .p _
    | 1, a, b => cases a; cases b; exact .p _
    | 2, a, b => cases a; cases b; exact .p _
  · have run : (execOp e o).run P w = .ok (.value (.tuple #[.bool false])) w := by
      simp only [execOp, ho, Instr.next, hex, Sem.run_bind, run_getObj_iter hh, Result.andThen_ok, if_neg hp, Sem.run_pure]
    rw [run]
    refine ⟨_, G, _, Le.refl _ _, hw, .tup _ _ rfl fun i c v a b => ?_, h2 hp⟩
    match i, a, b with
    | 0, a, b => cases a; cases b; exact .p _
theorem run_setObj {w : World} {r : Nat} {es : Array MapEntry} {c : Nat} {o' : Obj} (h : w.heap[r]? = some (.map es c)) : ∃ w', (setObj r o').run P w = .ok () w' ∧ Touch w w' r ∧ w'.heap[r]? = some o' := by
  refine ⟨{ w with heap := w.heap.set! r o' }, ?_, ⟨rfl, rfl, rfl, by simp, fun k hk => ?_⟩, ?_⟩
  · simp [setObj, Sem.run, h]
  · simp [Array.getElem?_setIfInBounds_ne (fun e => hk e.symm)]
  · obtain ⟨hr, _⟩ := Array.getElem?_eq_some_iff.1 h
    simp [hr]
theorem opq_lookup {t : TypeId} {m k : Operand} {ok : Bool} (ho : o.op = .lookup t m k ok) {d : TypeDesc} {el : TypeId} (ht : tmap P t = some (d, el)) {b : Nat} (hm : ρ m = .map b) {es : List (AV × AV)} (hb : σ.mp b = some es) {kv : Value} (hk : ρ k = .p kv)
    {r : Option (Nat × AV)} (hf : amfind d (.p kv) es 0 = some r) {x : AV} (hx : match r with | some (_, y) => x = y | none => tzero P el = some x) (hr : R (if ok = true then .tup [x, .p (.bool r.isSome)] else x) σ) : OpQ P o ρ σ R := by
  obtain ⟨kt, u1, u2, u3⟩ := tmap_spec ht
  intro G e w he hw
  have hm' := he m
  rw [hm] at hm'
  have hk' := he k
  rw [hk] at hk'
  obtain ⟨μ, ents, clock, g1, g2, g3, g4, g5⟩ := mp_map (hw.mp b es hb) hf
  generalize hem : e m = vm at hm'
  generalize hek : e k = vk at hk'
  cases hk'
  obtain ⟨μ', rfl, g⟩ : ∃ μ', vm = .map (some μ') ∧ G.mp b = some μ' := by cases hm'; exact ⟨_, rfl, by assumption⟩
  obtain rfl := Option.some.inj (g.symm.trans g1)
  have hf := findNow_spec (G := G) (w := w) es ents.toList 0 r (by simp [g3]) (fun n k x e a c => by
    have := g4 n k x e a (by simpa using c)
    exact ⟨this.1, this.2.1⟩) hf
  have key : ∃ v, (execOp e o).run P w = .ok (.value (if ok = true then .tuple #[v, .bool r.isSome] else v)) w ∧ Rep G w x v := by
    cases r with
    | none =>
      obtain ⟨i, v, hi, hv, rfl⟩ := tzero_spec hx
      refine ⟨v, ?_, rep_ofV G w v⟩
      simp [execOp, ho, Instr.lookup, run_underlying' u1, hem, hek, run_getObj_map g2, run_checkKey u2 u3, run_findKey u2 hf, run_zeroValue' hi hv]
    | some jy =>
      obtain ⟨j, y⟩ := jy
      obtain ⟨e', _, he', hre, hf⟩ := hf
      have hx' : x = y := hx
      refine ⟨e'.val, ?_, by rw [hx']; exact hre⟩
      simp [execOp, ho, Instr.lookup, run_underlying' u1, hem, hek, run_getObj_map g2, run_checkKey u2 u3, run_findKey u2 hf]
  obtain ⟨v, run, hrep⟩ := key
  rw [run]
  refine ⟨_, G, σ, Le.refl _ _, hw, ?_, hr⟩
  cases ok with
  | false => exact hrep
  | true =>
    refine .tup _ _ rfl fun i c u a c' => ?_
    match i, a, c' with
    | 0, a, c' => cases a; cases c'; exact hrep
    | 1, a, c' => cases a; cases c'; exact .p _
theorem keyStays {d : TypeDesc} {x : Value} (hd : ∃ b, Instr.sameNow d x x = some b) (w : World) : (Instr.keyThatStays x x).run P w = .ok x w := by
  have : Instr.sameBits 10000 x x = true := by
    obtain ⟨b, h⟩ := hd
    unfold Instr.sameNow at h
    split at h
    · simp [Instr.sameBits]
    · simp [Instr.sameBits, beq_bytes]
    · simp [Instr.sameBits]
    · cases h
  simp [Instr.keyThatStays, this]
/-- A key's value put, new or in place. -/
def amput (d : TypeDesc) (k x : AV) (es : List (AV × AV)) : Option (List (AV × AV)) :=
  (amfind d k es 0).map fun r => match r with
    | none => es ++ [(k, x)]
    | some (j, _) => es.set j (k, x)
theorem amfind_key {d : TypeDesc} {kv : Value} : ∀ (es : List (AV × AV)) (i j : Nat) (x : AV), amfind d (.p kv) es i = some (some (j, x)) → i ≤ j ∧ es[j - i]? = some (.p kv, x) ∧ Instr.sameNow d kv kv = some true
  | [], i, j, x, h => by cases h
  | (k, x0) :: es, i, j, x, h => by
    unfold amfind at h
    simp only at h
    cases hq : akey d (.p kv) k with
    | none => rw [hq] at h; cases h
    | some b =>
      rw [hq] at h
      cases b with
      | true =>
        simp only [Option.some.injEq, Prod.mk.injEq] at h
        obtain ⟨rfl, rfl⟩ := h
        obtain ⟨y, rfl, hs, he⟩ := akey_spec hq
        obtain rfl := he rfl
        exact ⟨Nat.le_refl _, by simp, hs⟩
      | false =>
        obtain ⟨h1, h2, h3⟩ := amfind_key es (i + 1) j x h
        exact ⟨by omega, by rw [show j - i = (j - (i + 1)) + 1 by omega]; exact h2, h3⟩
theorem opq_mapPut {t : TypeId} {m k x : Operand} (ho : o.op = .insert t m k x ∨ o.op = .mapUpdate t m k x) {d : TypeDesc} {el : TypeId} (ht : tmap P t = some (d, el)) {b : Nat} (hm : ρ m = .map b) {es es' : List (AV × AV)} (hb : σ.mp b = some es) {kv : Value} (hk : ρ k = .p kv)
    (hf : amput d (.p kv) (ρ x) es = some es') (hr : R (.p undef) { σ with mp := upd σ.mp b (some es') }) : OpQ P o ρ σ R := by
  obtain ⟨kt, u1, u2, u3⟩ := tmap_spec ht
  intro G e w he hw
  have hm' := he m
  rw [hm] at hm'
  have hk' := he k
  rw [hk] at hk'
  have hx' := he x
  obtain ⟨r, hfd, rfl⟩ := Option.map_eq_some_iff.1 hf
  obtain ⟨μ, ents, clock, g1, g2, g3, g4, g5⟩ := mp_map (hw.mp b es hb) hfd
  generalize hem : e m = vm at hm'
  generalize hek : e k = vk at hk'
  generalize hex : e x = vx at hx'
  cases hk'
  obtain ⟨μ', rfl, g⟩ : ∃ μ', vm = .map (some μ') ∧ G.mp b = some μ' := by cases hm'; exact ⟨_, rfl, by assumption⟩
  obtain rfl := Option.some.inj (g.symm.trans g1)
  have hfn := findNow_spec (G := G) (w := w) es ents.toList 0 r (by simp [g3]) (fun n k x e a c => by
    have := g4 n k x e a (by simpa using c)
    exact ⟨this.1, this.2.1⟩) hfd
  have key : ∃ ents' clock', (execOp e o).run P w = ((setObj μ' (.map ents' clock')).run P w).andThen (fun _ w' => .ok .skip w') ∧ ents'.size = (match r with | none => es ++ [(AV.p kv, ρ x)] | some (j, _) => es.set j (AV.p kv, ρ x)).length ∧
      (∀ (i : Nat) k' x' (e' : MapEntry), (match r with | none => es ++ [(AV.p kv, ρ x)] | some (j, _) => es.set j (AV.p kv, ρ x))[i]? = some (k', x') → ents'[i]? = some e' → Rep G w k' e'.key ∧ Rep G w x' e'.val ∧ e'.born < clock') ∧ (∀ (i j : Nat) (e e' : MapEntry), ents'[i]? = some e → ents'[j]? = some e' → e.born = e'.born → i = j) := by
    cases r with
    | none =>
      refine ⟨ents.push { key := kv, val := vx, born := clock }, clock + 1, ?_, by simp [g3], ?_, ?_⟩
      · rcases ho with ho | ho <;> simp [execOp, ho, Instr.mapUpdate, run_underlying' u1, hem, hek, hex, run_getObj_map g2, run_checkKey u2 u3, run_findKey u2 hfn]
      · intro i k' x' e' a c
        simp only at a
        rw [Array.getElem?_push] at c
        split at c
        · rename_i hi
          obtain rfl := Option.some.inj c
          subst hi
          rw [List.getElem?_append_right (by omega)] at a
          simp [g3] at a
          obtain ⟨rfl, rfl⟩ := a
          exact ⟨.p _, hx', by simp⟩
        · rename_i hi
          have hlt : i < ents.size := (Array.getElem?_eq_some_iff.1 c).1
          rw [List.getElem?_append_left (by omega)] at a
          obtain ⟨q1, q2, q3⟩ := g4 i k' x' e' a c
          exact ⟨q1, q2, by omega⟩
      · intro i j e1 e2 h1 h2 h3
        have old : ∀ (i : Nat) (e : MapEntry), ents[i]? = some e → e.born < clock := fun i e h => by
          have hi : i < es.length := by have := (Array.getElem?_eq_some_iff.1 h).1; omega
          exact (g4 i es[i].1 es[i].2 e (by rw [List.getElem?_eq_getElem hi]) h).2.2
        rw [Array.getElem?_push] at h1 h2
        split at h1
        · split at h2
          · omega
          · obtain rfl := Option.some.inj h1
            have := old _ _ h2
            simp at h3; omega
        · split at h2
          · obtain rfl := Option.some.inj h2
            have := old _ _ h1
            simp at h3; omega
          · exact g5 i j e1 e2 h1 h2 h3
    | some jy =>
      obtain ⟨j, y⟩ := jy
      obtain ⟨e0, _, he0, hre, hfn⟩ := hfn
      obtain ⟨_, hes, hsame⟩ := amfind_key es 0 j y hfd
      simp only [Nat.sub_zero] at he0 hes
      have he0' : ents[j]? = some e0 := by simpa using he0
      obtain ⟨q1, q2, q3⟩ := g4 j _ _ e0 hes he0'
      obtain rfl : kv = e0.key := by cases q1; rfl
      refine ⟨ents.modify j fun e => { e with key := e0.key, val := vx }, clock, ?_, by simp [g3], ?_, ?_⟩
      · rcases ho with ho | ho <;> simp [execOp, ho, Instr.mapUpdate, run_underlying' u1, hem, hek, hex, run_getObj_map g2, run_checkKey u2 u3, run_findKey u2 hfn, he0', keyStays ⟨_, hsame⟩]
      · intro i k' x' e' a c
        simp only at a
        rw [Array.getElem?_modify] at c
        split at c
        · rename_i hi
          subst hi
          rw [he0'] at c
          obtain rfl := Option.some.inj c
          have hlt : j < es.length := (List.getElem?_eq_some_iff.1 hes).1
          rw [List.getElem?_set_self hlt] at a
          simp only [Option.some.injEq, Prod.mk.injEq] at a
          obtain ⟨rfl, rfl⟩ := a
          exact ⟨.p _, hx', q3⟩
        · rename_i hi
          rw [List.getElem?_set_ne hi] at a
          exact g4 i k' x' e' a c
      · intro i j' e1 e2 h1 h2 h3
        have old : ∀ (i : Nat) (e : MapEntry), (ents.modify j fun e => { e with key := e0.key, val := vx })[i]? = some e → ∃ e', ents[i]? = some e' ∧ e'.born = e.born := fun i e h => by
          rw [Array.getElem?_modify] at h
          split at h
          · rename_i hi; subst hi
            rw [he0'] at h
            obtain rfl := Option.some.inj h
            exact ⟨e0, he0', rfl⟩
          · exact ⟨e, h, rfl⟩
        obtain ⟨a1, b1, c1⟩ := old _ _ h1
        obtain ⟨a2, b2, c2⟩ := old _ _ h2
        exact g5 i j' a1 a2 b1 b2 (by rw [c1, c2, h3])
  obtain ⟨ents', clock', run, k1, k2, k3⟩ := key
  obtain ⟨w', hset, htouch, hh⟩ := run_setObj (P := P) (o' := .map ents' clock') g2
  rw [run, hset, Result.andThen_ok]
  have hown : Owns G σ μ' (1, b) := .mp b μ' es hb g
  have hl := Le.touch hw hown htouch
  exact ⟨_, G, _, hl, hw.touch_mp hb g htouch (fun hl => .inl ⟨μ', ents', clock', g, hh, k1, fun i k' x' e' a c => ⟨(k2 i k' x' e' a c).1.mono hl, (k2 i k' x' e' a c).2.1.mono hl, (k2 i k' x' e' a c).2.2⟩, k3⟩), .p _, hr⟩
theorem awl_range {rest : List Oper} {t : TypeId} {x : Operand} (mu : List Nat) (ho : o.op = .range t x) (hw : awanted ops o fr = some true) (ht : isString P t = true) {s : ByteArray} (hx : aev fr x = .p (.string s))
    (hk : Shut (ARun P D ops Q mu rest (aput fr o.dst (.it σ.next)) (σ.addMp (itE s 0)))) : AWL P D ops Q (o :: rest) fr σ :=
  awl_cons hw (opq_range ho ht hx (awl_run' mu hk))
theorem awl_next {rest : List Oper} {x : Operand} (mu : List Nat) (ho : o.op = .next x true) (hw : awanted ops o fr = some true) {m : Nat} (hx : aev fr x = .it m) {s : ByteArray} {pos : Nat} (hm : σ.mp m = some (itE s pos))
    (h1 : pos < s.size → Shut (ARun P D ops Q mu rest (aput fr o.dst (.tup [.p (.bool true), .p (.int .i64 (pos : Int)), .p (.int .i32 (Utf8.decode s pos).1)])) { σ with mp := upd σ.mp m (some (itE s (pos + (Utf8.decode s pos).2))) }))
    (h2 : ¬ pos < s.size → Shut (ARun P D ops Q mu rest (aput fr o.dst (.tup [.p (.bool false)])) σ)) : AWL P D ops Q (o :: rest) fr σ :=
  awl_cons hw (opq_next ho hx hm (fun h => awl_run' mu (h1 h)) (fun h => awl_run' mu (h2 h)))
@[simp] theorem upd_upd {α : Type} (f : Nat → Option α) (b : Nat) (x y : Option α) : upd (upd f b x) b y = upd f b y := by
  funext k; unfold upd; split <;> rfl
theorem awl_makeMap {rest : List Oper} {t : TypeId} (mu : List Nat) (ho : o.op = .makeMap t none) (hw : awanted ops o fr = some true)
    (hk : Shut (ARun P D ops Q mu rest (aput fr o.dst (.map σ.next)) (σ.addMp []))) : AWL P D ops Q (o :: rest) fr σ :=
  awl_cons hw (opq_makeMap ho (awl_run' mu hk))
theorem awl_mapPut {rest : List Oper} {t : TypeId} {m k x : Operand} (mu : List Nat) (ho : o.op = .insert t m k x ∨ o.op = .mapUpdate t m k x) (hw : awanted ops o fr = some true) {d : TypeDesc} {el : TypeId} (ht : tmap P t = some (d, el)) {b : Nat} (hm : aev fr m = .map b) {es es' : List (AV × AV)} (hb : σ.mp b = some es)
    {kv : Value} (hk : aev fr k = .p kv) (hf : amput d (.p kv) (aev fr x) es = some es') (hk2 : Shut (ARun P D ops Q mu rest (aput fr o.dst (.p undef)) { σ with mp := upd σ.mp b (some es') })) : AWL P D ops Q (o :: rest) fr σ :=
  awl_cons hw (opq_mapPut ho ht hm hb hk hf (awl_run' mu hk2))
theorem awl_mapNew {rest : List Oper} {t : TypeId} {m k x : Operand} (mu : List Nat) (ho : o.op = .insert t m k x ∨ o.op = .mapUpdate t m k x) (hw : awanted ops o fr = some true) {d : TypeDesc} {el : TypeId} (ht : tmap P t = some (d, el)) {b : Nat} (hm : aev fr m = .map b) {es : List (AV × AV)} (hb : σ.mp b = some es)
    {kv : Value} (hk : aev fr k = .p kv) (hf : amfind d (.p kv) es 0 = some none) (hk2 : Shut (ARun P D ops Q mu rest (aput fr o.dst (.p undef)) { σ with mp := upd σ.mp b (some (es ++ [(.p kv, aev fr x)])) })) : AWL P D ops Q (o :: rest) fr σ :=
  awl_mapPut mu ho hw ht hm hb hk (by unfold amput; rw [hf]; rfl) hk2
theorem awl_lookup {rest : List Oper} {t : TypeId} {m k : Operand} {ok : Bool} (mu : List Nat) (ho : o.op = .lookup t m k ok) (hw : awanted ops o fr = some true) {d : TypeDesc} {el : TypeId} (ht : tmap P t = some (d, el)) {b : Nat} (hm : aev fr m = .map b) {es : List (AV × AV)} (hb : σ.mp b = some es)
    {kv : Value} (hk : aev fr k = .p kv) {r : Option (Nat × AV)} (hf : amfind d (.p kv) es 0 = some r) {x : AV} (hx : match r with | some (_, y) => x = y | none => tzero P el = some x)
    (hk2 : Shut (ARun P D ops Q mu rest (aput fr o.dst (if ok = true then .tup [x, .p (.bool r.isSome)] else x)) σ)) : AWL P D ops Q (o :: rest) fr σ :=
  awl_cons hw (opq_lookup ho ht hm hb hk hf hx (awl_run' mu hk2))
theorem acall_upd {f : FuncId} {args : List AV} {R R' : AV → ASt → Prop} (h : ACall P f args σ R) (hr : ∀ r σ, R r σ → R' r σ) : ACall P f args σ R' := h.mono hr
/-- A call with its own memory left behind, next in a run. -/
theorem awl_call' {rest : List Oper} {f : Operand} {aa : Array Operand} {ts : Array TypeId} (mu : List Nat) (ho : o.op = .call { callee := .value f, args := aa, argTypes := ts }) (hw : awanted ops o fr = some true)
    {F : FuncId} {first cap : List AV} (hf : acallee (aev fr f) = some (F, first, cap)) (hc : callable P F = true) {args : List AV} (ha : first ++ aa.toList.map (aev fr) ++ cap = args) {r : AV} {τ : ASt} (h : ACall P F args σ fun r' τ' => r' = r ∧ τ' = τ)
    (hk : Shut (ARun P D ops Q mu rest (aput fr o.dst r) τ)) : AWL P D ops Q (o :: rest) fr σ :=
  awl_cons hw (opq_call ho hf hc (by rw [ha]; exact h.mono fun r' τ' ⟨e1, e2⟩ => by subst e1; subst e2; exact awl_run' mu hk))
end Go.AL
