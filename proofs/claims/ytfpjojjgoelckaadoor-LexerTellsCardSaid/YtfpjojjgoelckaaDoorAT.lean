import Derived.Test.YtfpjojjgoelckaaDoorA12
import Derived.Test.YtfpjojjgoelckaaDoorProg
/-! What the logic wants to know of the types. -/
namespace Go.AL
open Go.Proofs
@[simp] theorem ts2 : tsize Tryd.prog 2 = some (1, false) := by kernel_rfl
@[simp] theorem tk2 : tkind Tryd.prog 2 = 0 := by kernel_rfl
@[simp] theorem ti2 : isIface Tryd.prog 2 = false := by kernel_rfl
@[simp] theorem tl2 : tleaf Tryd.prog 2 = 2 := by kernel_rfl
@[simp] theorem tu2 : Tryd.prog.underlying 2 = some (.int .i64) := by kernel_rfl
@[simp] theorem tstn2 : isString Tryd.prog 2 = false := by kernel_rfl
@[simp] theorem tbyn2 : isBytes Tryd.prog 2 = false := by kernel_rfl
@[simp] theorem tz2 : tzero Tryd.prog 2 = some (.p (.int .i64 0)) := by kernel_rfl
@[simp] theorem ts3 : tsize Tryd.prog 3 = some (1, false) := by kernel_rfl
@[simp] theorem tk3 : tkind Tryd.prog 3 = 0 := by kernel_rfl
@[simp] theorem ti3 : isIface Tryd.prog 3 = false := by kernel_rfl
@[simp] theorem tl3 : tleaf Tryd.prog 3 = 2 := by kernel_rfl
@[simp] theorem tu3 : Tryd.prog.underlying 3 = some (.int .i64) := by kernel_rfl
@[simp] theorem tstn3 : isString Tryd.prog 3 = false := by kernel_rfl
@[simp] theorem tbyn3 : isBytes Tryd.prog 3 = false := by kernel_rfl
@[simp] theorem tz3 : tzero Tryd.prog 3 = some (.p (.int .i64 0)) := by kernel_rfl
@[simp] theorem ts4 : tsize Tryd.prog 4 = some (1, false) := by kernel_rfl
@[simp] theorem tk4 : tkind Tryd.prog 4 = 1 := by kernel_rfl
@[simp] theorem ti4 : isIface Tryd.prog 4 = false := by kernel_rfl
@[simp] theorem tl4 : tleaf Tryd.prog 4 = 1 := by kernel_rfl
@[simp] theorem tu4 : Tryd.prog.underlying 4 = some .bool := by kernel_rfl
@[simp] theorem tstn4 : isString Tryd.prog 4 = false := by kernel_rfl
@[simp] theorem tbyn4 : isBytes Tryd.prog 4 = false := by kernel_rfl
@[simp] theorem tz4 : tzero Tryd.prog 4 = some (.p (.bool false)) := by kernel_rfl
@[simp] theorem ts5 : tsize Tryd.prog 5 = some (1, false) := by kernel_rfl
@[simp] theorem tk5 : tkind Tryd.prog 5 = 0 := by kernel_rfl
@[simp] theorem ti5 : isIface Tryd.prog 5 = false := by kernel_rfl
@[simp] theorem tl5 : tleaf Tryd.prog 5 = 2 := by kernel_rfl
@[simp] theorem tu5 : Tryd.prog.underlying 5 = some (.int .u8) := by kernel_rfl
@[simp] theorem tstn5 : isString Tryd.prog 5 = false := by kernel_rfl
@[simp] theorem tbyn5 : isBytes Tryd.prog 5 = false := by kernel_rfl
@[simp] theorem tz5 : tzero Tryd.prog 5 = some (.p (.int .u8 0)) := by kernel_rfl
@[simp] theorem ts9 : tsize Tryd.prog 9 = some (1, false) := by kernel_rfl
@[simp] theorem tk9 : tkind Tryd.prog 9 = 0 := by kernel_rfl
@[simp] theorem ti9 : isIface Tryd.prog 9 = false := by kernel_rfl
@[simp] theorem tl9 : tleaf Tryd.prog 9 = 3 := by kernel_rfl
@[simp] theorem tstr9 : isString Tryd.prog 9 = true := by kernel_rfl
@[simp] theorem tu9 : Tryd.prog.underlying 9 = some .string := by kernel_rfl
@[simp] theorem tbyn9 : isBytes Tryd.prog 9 = false := by kernel_rfl
@[simp] theorem tz9 : tzero Tryd.prog 9 = some (.p (.string ⟨#[]⟩)) := by kernel_rfl
@[simp] theorem ts12 : tsize Tryd.prog 12 = some (1, false) := by kernel_rfl
@[simp] theorem tk12 : tkind Tryd.prog 12 = 0 := by kernel_rfl
@[simp] theorem ti12 : isIface Tryd.prog 12 = false := by kernel_rfl
@[simp] theorem tl12 : tleaf Tryd.prog 12 = 2 := by kernel_rfl
@[simp] theorem tu12 : Tryd.prog.underlying 12 = some (.int .u64) := by kernel_rfl
@[simp] theorem tstn12 : isString Tryd.prog 12 = false := by kernel_rfl
@[simp] theorem tbyn12 : isBytes Tryd.prog 12 = false := by kernel_rfl
@[simp] theorem tz12 : tzero Tryd.prog 12 = some (.p (.int .u64 0)) := by kernel_rfl
@[simp] theorem ts13 : tsize Tryd.prog 13 = some (2, true) := by kernel_rfl
@[simp] theorem tk13 : tkind Tryd.prog 13 = 0 := by kernel_rfl
@[simp] theorem ti13 : isIface Tryd.prog 13 = false := by kernel_rfl
@[simp] theorem tstn13 : isString Tryd.prog 13 = false := by kernel_rfl
@[simp] theorem tbyn13 : isBytes Tryd.prog 13 = false := by kernel_rfl
@[simp] theorem tf13_0 : tfield Tryd.prog 13 0 = some (0, 1, false) := by kernel_rfl
@[simp] theorem tf13_1 : tfield Tryd.prog 13 1 = some (1, 1, false) := by kernel_rfl
@[simp] theorem tp13 : tplaces Tryd.prog 13 = some [(0, 1), (1, 1)] := by kernel_rfl
@[simp] theorem tz13 : tzero Tryd.prog 13 = some (.agg [.p (.string ⟨#[]⟩), .p (.int .u64 0)]) := by kernel_rfl
@[simp] theorem ts20 : tsize Tryd.prog 20 = some (1, false) := by kernel_rfl
@[simp] theorem tk20 : tkind Tryd.prog 20 = 3 := by kernel_rfl
@[simp] theorem ti20 : isIface Tryd.prog 20 = true := by kernel_rfl
@[simp] theorem tstn20 : isString Tryd.prog 20 = false := by kernel_rfl
@[simp] theorem tbyn20 : isBytes Tryd.prog 20 = false := by kernel_rfl
@[simp] theorem tz20 : tzero Tryd.prog 20 = some (.p (.nilIface)) := by kernel_rfl
@[simp] theorem ts21 : tsize Tryd.prog 21 = some (1, false) := by kernel_rfl
@[simp] theorem tk21 : tkind Tryd.prog 21 = 0 := by kernel_rfl
@[simp] theorem ti21 : isIface Tryd.prog 21 = false := by kernel_rfl
@[simp] theorem tl21 : tleaf Tryd.prog 21 = 2 := by kernel_rfl
@[simp] theorem tu21 : Tryd.prog.underlying 21 = some (.int .i32) := by kernel_rfl
@[simp] theorem tstn21 : isString Tryd.prog 21 = false := by kernel_rfl
@[simp] theorem tbyn21 : isBytes Tryd.prog 21 = false := by kernel_rfl
@[simp] theorem tz21 : tzero Tryd.prog 21 = some (.p (.int .i32 0)) := by kernel_rfl
@[simp] theorem ts23 : tsize Tryd.prog 23 = some (1, false) := by kernel_rfl
@[simp] theorem tk23 : tkind Tryd.prog 23 = 4 := by kernel_rfl
@[simp] theorem ti23 : isIface Tryd.prog 23 = false := by kernel_rfl
@[simp] theorem tby23 : isBytes Tryd.prog 23 = false := by kernel_rfl
@[simp] theorem tstn23 : isString Tryd.prog 23 = false := by kernel_rfl
@[simp] theorem tsl23 : isSlice Tryd.prog 23 = true := by kernel_rfl
@[simp] theorem te23 : telem Tryd.prog 23 = some (6, true, 56) := by kernel_rfl
@[simp] theorem tet23 : telemT Tryd.prog 23 = some 37 := by kernel_rfl
@[simp] theorem tz23 : tzero Tryd.prog 23 = some (.p (.slice none 0 0)) := by kernel_rfl
@[simp] theorem ts24 : tsize Tryd.prog 24 = some (1, false) := by kernel_rfl
@[simp] theorem tk24 : tkind Tryd.prog 24 = 0 := by kernel_rfl
@[simp] theorem ti24 : isIface Tryd.prog 24 = false := by kernel_rfl
@[simp] theorem tl24 : tleaf Tryd.prog 24 = 2 := by kernel_rfl
@[simp] theorem tu24 : Tryd.prog.underlying 24 = some (.int .i64) := by kernel_rfl
@[simp] theorem tstn24 : isString Tryd.prog 24 = false := by kernel_rfl
@[simp] theorem tbyn24 : isBytes Tryd.prog 24 = false := by kernel_rfl
@[simp] theorem tz24 : tzero Tryd.prog 24 = some (.p (.int .i64 0)) := by kernel_rfl
@[simp] theorem ts27 : tsize Tryd.prog 27 = some (1, false) := by kernel_rfl
@[simp] theorem tk27 : tkind Tryd.prog 27 = 4 := by kernel_rfl
@[simp] theorem ti27 : isIface Tryd.prog 27 = false := by kernel_rfl
@[simp] theorem tby27 : isBytes Tryd.prog 27 = false := by kernel_rfl
@[simp] theorem tstn27 : isString Tryd.prog 27 = false := by kernel_rfl
@[simp] theorem tsl27 : isSlice Tryd.prog 27 = true := by kernel_rfl
@[simp] theorem te27 : telem Tryd.prog 27 = some (6, true, 56) := by kernel_rfl
@[simp] theorem tet27 : telemT Tryd.prog 27 = some 43 := by kernel_rfl
@[simp] theorem tz27 : tzero Tryd.prog 27 = some (.p (.slice none 0 0)) := by kernel_rfl
@[simp] theorem ts33 : tsize Tryd.prog 33 = some (1, false) := by kernel_rfl
@[simp] theorem tk33 : tkind Tryd.prog 33 = 0 := by kernel_rfl
@[simp] theorem ti33 : isIface Tryd.prog 33 = false := by kernel_rfl
@[simp] theorem tl33 : tleaf Tryd.prog 33 = 2 := by kernel_rfl
@[simp] theorem tu33 : Tryd.prog.underlying 33 = some (.int .i64) := by kernel_rfl
@[simp] theorem tstn33 : isString Tryd.prog 33 = false := by kernel_rfl
@[simp] theorem tbyn33 : isBytes Tryd.prog 33 = false := by kernel_rfl
@[simp] theorem tz33 : tzero Tryd.prog 33 = some (.p (.int .i64 0)) := by kernel_rfl
@[simp] theorem ts34 : tsize Tryd.prog 34 = some (2, true) := by kernel_rfl
@[simp] theorem tk34 : tkind Tryd.prog 34 = 0 := by kernel_rfl
@[simp] theorem ti34 : isIface Tryd.prog 34 = false := by kernel_rfl
@[simp] theorem tq34 : teqok Tryd.prog 34 = true := by kernel_rfl
@[simp] theorem tg34 : tflds Tryd.prog 34 = some [(3, 0), (3, 1)] := by kernel_rfl
@[simp] theorem tstn34 : isString Tryd.prog 34 = false := by kernel_rfl
@[simp] theorem tbyn34 : isBytes Tryd.prog 34 = false := by kernel_rfl
@[simp] theorem tf34_0 : tfield Tryd.prog 34 0 = some (0, 1, false) := by kernel_rfl
@[simp] theorem tf34_1 : tfield Tryd.prog 34 1 = some (1, 1, false) := by kernel_rfl
@[simp] theorem tp34 : tplaces Tryd.prog 34 = some [(0, 1), (1, 1)] := by kernel_rfl
@[simp] theorem tz34 : tzero Tryd.prog 34 = some (.agg [.p (.int .i64 0), .p (.int .i64 0)]) := by kernel_rfl
@[simp] theorem ts35 : tsize Tryd.prog 35 = some (2, true) := by kernel_rfl
@[simp] theorem tk35 : tkind Tryd.prog 35 = 0 := by kernel_rfl
@[simp] theorem ti35 : isIface Tryd.prog 35 = false := by kernel_rfl
@[simp] theorem tq35 : teqok Tryd.prog 35 = true := by kernel_rfl
@[simp] theorem tg35 : tflds Tryd.prog 35 = some [(3, 0), (3, 1)] := by kernel_rfl
@[simp] theorem tstn35 : isString Tryd.prog 35 = false := by kernel_rfl
@[simp] theorem tbyn35 : isBytes Tryd.prog 35 = false := by kernel_rfl
@[simp] theorem tf35_0 : tfield Tryd.prog 35 0 = some (0, 1, false) := by kernel_rfl
@[simp] theorem tf35_1 : tfield Tryd.prog 35 1 = some (1, 1, false) := by kernel_rfl
@[simp] theorem tp35 : tplaces Tryd.prog 35 = some [(0, 1), (1, 1)] := by kernel_rfl
@[simp] theorem tz35 : tzero Tryd.prog 35 = some (.agg [.p (.int .i64 0), .p (.int .i64 0)]) := by kernel_rfl
@[simp] theorem ts36 : tsize Tryd.prog 36 = some (6, true) := by kernel_rfl
@[simp] theorem tk36 : tkind Tryd.prog 36 = 0 := by kernel_rfl
@[simp] theorem ti36 : isIface Tryd.prog 36 = false := by kernel_rfl
@[simp] theorem tq36 : teqok Tryd.prog 36 = true := by kernel_rfl
@[simp] theorem tg36 : tflds Tryd.prog 36 = some [(33, 0), (3, 1), (35, 2), (9, 4), (3, 5)] := by kernel_rfl
@[simp] theorem tstn36 : isString Tryd.prog 36 = false := by kernel_rfl
@[simp] theorem tbyn36 : isBytes Tryd.prog 36 = false := by kernel_rfl
@[simp] theorem tf36_0 : tfield Tryd.prog 36 0 = some (0, 1, false) := by kernel_rfl
@[simp] theorem tf36_1 : tfield Tryd.prog 36 1 = some (1, 1, false) := by kernel_rfl
@[simp] theorem tf36_2 : tfield Tryd.prog 36 2 = some (2, 2, true) := by kernel_rfl
@[simp] theorem tf36_3 : tfield Tryd.prog 36 3 = some (4, 1, false) := by kernel_rfl
@[simp] theorem tf36_4 : tfield Tryd.prog 36 4 = some (5, 1, false) := by kernel_rfl
@[simp] theorem tp36 : tplaces Tryd.prog 36 = some [(0, 1), (1, 1), (2, 2), (4, 1), (5, 1)] := by kernel_rfl
@[simp] theorem tz36 : tzero Tryd.prog 36 = some (.agg [.p (.int .i64 0), .p (.int .i64 0), .p (.int .i64 0), .p (.int .i64 0), .p (.string ⟨#[]⟩), .p (.int .i64 0)]) := by kernel_rfl
@[simp] theorem ts37 : tsize Tryd.prog 37 = some (6, true) := by kernel_rfl
@[simp] theorem tk37 : tkind Tryd.prog 37 = 0 := by kernel_rfl
@[simp] theorem ti37 : isIface Tryd.prog 37 = false := by kernel_rfl
@[simp] theorem tq37 : teqok Tryd.prog 37 = true := by kernel_rfl
@[simp] theorem tg37 : tflds Tryd.prog 37 = some [(33, 0), (3, 1), (35, 2), (9, 4), (3, 5)] := by kernel_rfl
@[simp] theorem tstn37 : isString Tryd.prog 37 = false := by kernel_rfl
@[simp] theorem tbyn37 : isBytes Tryd.prog 37 = false := by kernel_rfl
@[simp] theorem tf37_0 : tfield Tryd.prog 37 0 = some (0, 1, false) := by kernel_rfl
@[simp] theorem tf37_1 : tfield Tryd.prog 37 1 = some (1, 1, false) := by kernel_rfl
@[simp] theorem tf37_2 : tfield Tryd.prog 37 2 = some (2, 2, true) := by kernel_rfl
@[simp] theorem tf37_3 : tfield Tryd.prog 37 3 = some (4, 1, false) := by kernel_rfl
@[simp] theorem tf37_4 : tfield Tryd.prog 37 4 = some (5, 1, false) := by kernel_rfl
@[simp] theorem tp37 : tplaces Tryd.prog 37 = some [(0, 1), (1, 1), (2, 2), (4, 1), (5, 1)] := by kernel_rfl
@[simp] theorem tz37 : tzero Tryd.prog 37 = some (.agg [.p (.int .i64 0), .p (.int .i64 0), .p (.int .i64 0), .p (.int .i64 0), .p (.string ⟨#[]⟩), .p (.int .i64 0)]) := by kernel_rfl
@[simp] theorem ts42 : tsize Tryd.prog 42 = some (6, true) := by kernel_rfl
@[simp] theorem tk42 : tkind Tryd.prog 42 = 0 := by kernel_rfl
@[simp] theorem ti42 : isIface Tryd.prog 42 = false := by kernel_rfl
@[simp] theorem tq42 : teqok Tryd.prog 42 = true := by kernel_rfl
@[simp] theorem tg42 : tflds Tryd.prog 42 = some [(3, 0), (3, 1), (35, 2), (9, 4), (3, 5)] := by kernel_rfl
@[simp] theorem tstn42 : isString Tryd.prog 42 = false := by kernel_rfl
@[simp] theorem tbyn42 : isBytes Tryd.prog 42 = false := by kernel_rfl
@[simp] theorem tf42_0 : tfield Tryd.prog 42 0 = some (0, 1, false) := by kernel_rfl
@[simp] theorem tf42_1 : tfield Tryd.prog 42 1 = some (1, 1, false) := by kernel_rfl
@[simp] theorem tf42_2 : tfield Tryd.prog 42 2 = some (2, 2, true) := by kernel_rfl
@[simp] theorem tf42_3 : tfield Tryd.prog 42 3 = some (4, 1, false) := by kernel_rfl
@[simp] theorem tf42_4 : tfield Tryd.prog 42 4 = some (5, 1, false) := by kernel_rfl
@[simp] theorem tp42 : tplaces Tryd.prog 42 = some [(0, 1), (1, 1), (2, 2), (4, 1), (5, 1)] := by kernel_rfl
@[simp] theorem tz42 : tzero Tryd.prog 42 = some (.agg [.p (.int .i64 0), .p (.int .i64 0), .p (.int .i64 0), .p (.int .i64 0), .p (.string ⟨#[]⟩), .p (.int .i64 0)]) := by kernel_rfl
@[simp] theorem ts43 : tsize Tryd.prog 43 = some (6, true) := by kernel_rfl
@[simp] theorem tk43 : tkind Tryd.prog 43 = 0 := by kernel_rfl
@[simp] theorem ti43 : isIface Tryd.prog 43 = false := by kernel_rfl
@[simp] theorem tq43 : teqok Tryd.prog 43 = true := by kernel_rfl
@[simp] theorem tg43 : tflds Tryd.prog 43 = some [(3, 0), (3, 1), (35, 2), (9, 4), (3, 5)] := by kernel_rfl
@[simp] theorem tstn43 : isString Tryd.prog 43 = false := by kernel_rfl
@[simp] theorem tbyn43 : isBytes Tryd.prog 43 = false := by kernel_rfl
@[simp] theorem tf43_0 : tfield Tryd.prog 43 0 = some (0, 1, false) := by kernel_rfl
@[simp] theorem tf43_1 : tfield Tryd.prog 43 1 = some (1, 1, false) := by kernel_rfl
@[simp] theorem tf43_2 : tfield Tryd.prog 43 2 = some (2, 2, true) := by kernel_rfl
@[simp] theorem tf43_3 : tfield Tryd.prog 43 3 = some (4, 1, false) := by kernel_rfl
@[simp] theorem tf43_4 : tfield Tryd.prog 43 4 = some (5, 1, false) := by kernel_rfl
@[simp] theorem tp43 : tplaces Tryd.prog 43 = some [(0, 1), (1, 1), (2, 2), (4, 1), (5, 1)] := by kernel_rfl
@[simp] theorem tz43 : tzero Tryd.prog 43 = some (.agg [.p (.int .i64 0), .p (.int .i64 0), .p (.int .i64 0), .p (.int .i64 0), .p (.string ⟨#[]⟩), .p (.int .i64 0)]) := by kernel_rfl
@[simp] theorem ts47 : tsize Tryd.prog 47 = some (256, true) := by kernel_rfl
@[simp] theorem tk47 : tkind Tryd.prog 47 = 0 := by kernel_rfl
@[simp] theorem ti47 : isIface Tryd.prog 47 = false := by kernel_rfl
@[simp] theorem tstn47 : isString Tryd.prog 47 = false := by kernel_rfl
@[simp] theorem tbyn47 : isBytes Tryd.prog 47 = false := by kernel_rfl
@[simp] theorem ta47 : tarr Tryd.prog 47 = some (256, 1, false) := by kernel_rfl
@[simp] theorem ts65 : tsize Tryd.prog 65 = some (1, false) := by kernel_rfl
@[simp] theorem tk65 : tkind Tryd.prog 65 = 3 := by kernel_rfl
@[simp] theorem ti65 : isIface Tryd.prog 65 = true := by kernel_rfl
@[simp] theorem tstn65 : isString Tryd.prog 65 = false := by kernel_rfl
@[simp] theorem tbyn65 : isBytes Tryd.prog 65 = false := by kernel_rfl
@[simp] theorem tz65 : tzero Tryd.prog 65 = some (.p (.nilIface)) := by kernel_rfl
@[simp] theorem ts66 : tsize Tryd.prog 66 = some (1, false) := by kernel_rfl
@[simp] theorem tk66 : tkind Tryd.prog 66 = 3 := by kernel_rfl
@[simp] theorem ti66 : isIface Tryd.prog 66 = true := by kernel_rfl
@[simp] theorem tstn66 : isString Tryd.prog 66 = false := by kernel_rfl
@[simp] theorem tbyn66 : isBytes Tryd.prog 66 = false := by kernel_rfl
@[simp] theorem tz66 : tzero Tryd.prog 66 = some (.p (.nilIface)) := by kernel_rfl
@[simp] theorem ts76 : tsize Tryd.prog 76 = some (256, true) := by kernel_rfl
@[simp] theorem tk76 : tkind Tryd.prog 76 = 0 := by kernel_rfl
@[simp] theorem ti76 : isIface Tryd.prog 76 = false := by kernel_rfl
@[simp] theorem tstn76 : isString Tryd.prog 76 = false := by kernel_rfl
@[simp] theorem tbyn76 : isBytes Tryd.prog 76 = false := by kernel_rfl
@[simp] theorem ta76 : tarr Tryd.prog 76 = some (256, 1, false) := by kernel_rfl
@[simp] theorem ts77 : tsize Tryd.prog 77 = some (1, false) := by kernel_rfl
@[simp] theorem tk77 : tkind Tryd.prog 77 = 0 := by kernel_rfl
@[simp] theorem ti77 : isIface Tryd.prog 77 = false := by kernel_rfl
@[simp] theorem tl77 : tleaf Tryd.prog 77 = 2 := by kernel_rfl
@[simp] theorem tu77 : Tryd.prog.underlying 77 = some (.int .u64) := by kernel_rfl
@[simp] theorem tstn77 : isString Tryd.prog 77 = false := by kernel_rfl
@[simp] theorem tbyn77 : isBytes Tryd.prog 77 = false := by kernel_rfl
@[simp] theorem tz77 : tzero Tryd.prog 77 = some (.p (.int .u64 0)) := by kernel_rfl
@[simp] theorem ts78 : tsize Tryd.prog 78 = some (2, true) := by kernel_rfl
@[simp] theorem tk78 : tkind Tryd.prog 78 = 0 := by kernel_rfl
@[simp] theorem ti78 : isIface Tryd.prog 78 = false := by kernel_rfl
@[simp] theorem tstn78 : isString Tryd.prog 78 = false := by kernel_rfl
@[simp] theorem tbyn78 : isBytes Tryd.prog 78 = false := by kernel_rfl
@[simp] theorem tf78_0 : tfield Tryd.prog 78 0 = some (0, 1, false) := by kernel_rfl
@[simp] theorem tf78_1 : tfield Tryd.prog 78 1 = some (1, 1, false) := by kernel_rfl
@[simp] theorem tp78 : tplaces Tryd.prog 78 = some [(0, 1), (1, 1)] := by kernel_rfl
@[simp] theorem tz78 : tzero Tryd.prog 78 = some (.agg [.p (.int .u8 0), .p (.int .u8 0)]) := by kernel_rfl
@[simp] theorem ts84 : tsize Tryd.prog 84 = some (1, false) := by kernel_rfl
@[simp] theorem tk84 : tkind Tryd.prog 84 = 0 := by kernel_rfl
@[simp] theorem ti84 : isIface Tryd.prog 84 = false := by kernel_rfl
@[simp] theorem tl84 : tleaf Tryd.prog 84 = 2 := by kernel_rfl
@[simp] theorem tu84 : Tryd.prog.underlying 84 = some (.int .i64) := by kernel_rfl
@[simp] theorem tstn84 : isString Tryd.prog 84 = false := by kernel_rfl
@[simp] theorem tbyn84 : isBytes Tryd.prog 84 = false := by kernel_rfl
@[simp] theorem tz84 : tzero Tryd.prog 84 = some (.p (.int .i64 0)) := by kernel_rfl
@[simp] theorem ts85 : tsize Tryd.prog 85 = some (1, false) := by kernel_rfl
@[simp] theorem tk85 : tkind Tryd.prog 85 = 4 := by kernel_rfl
@[simp] theorem ti85 : isIface Tryd.prog 85 = false := by kernel_rfl
@[simp] theorem tby85 : isBytes Tryd.prog 85 = true := by kernel_rfl
@[simp] theorem tstn85 : isString Tryd.prog 85 = false := by kernel_rfl
@[simp] theorem tsl85 : isSlice Tryd.prog 85 = true := by kernel_rfl
@[simp] theorem te85 : telem Tryd.prog 85 = some (1, false, 1) := by kernel_rfl
@[simp] theorem tet85 : telemT Tryd.prog 85 = some 5 := by kernel_rfl
@[simp] theorem tz85 : tzero Tryd.prog 85 = some (.p (.slice none 0 0)) := by kernel_rfl
@[simp] theorem ts88 : tsize Tryd.prog 88 = some (1, false) := by kernel_rfl
@[simp] theorem tk88 : tkind Tryd.prog 88 = 2 := by kernel_rfl
@[simp] theorem ti88 : isIface Tryd.prog 88 = false := by kernel_rfl
@[simp] theorem tstn88 : isString Tryd.prog 88 = false := by kernel_rfl
@[simp] theorem tbyn88 : isBytes Tryd.prog 88 = false := by kernel_rfl
@[simp] theorem tz88 : tzero Tryd.prog 88 = some (.p (.pointer none)) := by kernel_rfl
@[simp] theorem ts92 : tsize Tryd.prog 92 = some (1, false) := by kernel_rfl
@[simp] theorem tk92 : tkind Tryd.prog 92 = 0 := by kernel_rfl
@[simp] theorem ti92 : isIface Tryd.prog 92 = false := by kernel_rfl
@[simp] theorem tl92 : tleaf Tryd.prog 92 = 2 := by kernel_rfl
@[simp] theorem tu92 : Tryd.prog.underlying 92 = some (.int .u64) := by kernel_rfl
@[simp] theorem tstn92 : isString Tryd.prog 92 = false := by kernel_rfl
@[simp] theorem tbyn92 : isBytes Tryd.prog 92 = false := by kernel_rfl
@[simp] theorem tz92 : tzero Tryd.prog 92 = some (.p (.int .u64 0)) := by kernel_rfl
@[simp] theorem ts97 : tsize Tryd.prog 97 = some (3, true) := by kernel_rfl
@[simp] theorem tk97 : tkind Tryd.prog 97 = 0 := by kernel_rfl
@[simp] theorem ti97 : isIface Tryd.prog 97 = false := by kernel_rfl
@[simp] theorem tstn97 : isString Tryd.prog 97 = false := by kernel_rfl
@[simp] theorem tbyn97 : isBytes Tryd.prog 97 = false := by kernel_rfl
@[simp] theorem tf97_0 : tfield Tryd.prog 97 0 = some (0, 1, false) := by kernel_rfl
@[simp] theorem tf97_1 : tfield Tryd.prog 97 1 = some (1, 1, false) := by kernel_rfl
@[simp] theorem tf97_2 : tfield Tryd.prog 97 2 = some (2, 1, false) := by kernel_rfl
@[simp] theorem tp97 : tplaces Tryd.prog 97 = some [(0, 1), (1, 1), (2, 1)] := by kernel_rfl
@[simp] theorem tz97 : tzero Tryd.prog 97 = some (.agg [.p (.string ⟨#[]⟩), .p (.string ⟨#[]⟩), .p (.nilIface)]) := by kernel_rfl
@[simp] theorem ts98 : tsize Tryd.prog 98 = some (3, true) := by kernel_rfl
@[simp] theorem tk98 : tkind Tryd.prog 98 = 0 := by kernel_rfl
@[simp] theorem ti98 : isIface Tryd.prog 98 = false := by kernel_rfl
@[simp] theorem tstn98 : isString Tryd.prog 98 = false := by kernel_rfl
@[simp] theorem tbyn98 : isBytes Tryd.prog 98 = false := by kernel_rfl
@[simp] theorem tf98_0 : tfield Tryd.prog 98 0 = some (0, 1, false) := by kernel_rfl
@[simp] theorem tf98_1 : tfield Tryd.prog 98 1 = some (1, 1, false) := by kernel_rfl
@[simp] theorem tf98_2 : tfield Tryd.prog 98 2 = some (2, 1, false) := by kernel_rfl
@[simp] theorem tp98 : tplaces Tryd.prog 98 = some [(0, 1), (1, 1), (2, 1)] := by kernel_rfl
@[simp] theorem tz98 : tzero Tryd.prog 98 = some (.agg [.p (.string ⟨#[]⟩), .p (.string ⟨#[]⟩), .p (.nilIface)]) := by kernel_rfl
@[simp] theorem ts101 : tsize Tryd.prog 101 = some (1, false) := by kernel_rfl
@[simp] theorem tk101 : tkind Tryd.prog 101 = 2 := by kernel_rfl
@[simp] theorem ti101 : isIface Tryd.prog 101 = false := by kernel_rfl
@[simp] theorem tstn101 : isString Tryd.prog 101 = false := by kernel_rfl
@[simp] theorem tbyn101 : isBytes Tryd.prog 101 = false := by kernel_rfl
@[simp] theorem tz101 : tzero Tryd.prog 101 = some (.p (.pointer none)) := by kernel_rfl
@[simp] theorem ts103 : tsize Tryd.prog 103 = some (1, true) := by kernel_rfl
@[simp] theorem tk103 : tkind Tryd.prog 103 = 0 := by kernel_rfl
@[simp] theorem ti103 : isIface Tryd.prog 103 = false := by kernel_rfl
@[simp] theorem tstn103 : isString Tryd.prog 103 = false := by kernel_rfl
@[simp] theorem tbyn103 : isBytes Tryd.prog 103 = false := by kernel_rfl
@[simp] theorem tf103_0 : tfield Tryd.prog 103 0 = some (0, 1, false) := by kernel_rfl
@[simp] theorem tp103 : tplaces Tryd.prog 103 = some [(0, 1)] := by kernel_rfl
@[simp] theorem tz103 : tzero Tryd.prog 103 = some (.agg [.p (.string ⟨#[]⟩)]) := by kernel_rfl
@[simp] theorem ts106 : tsize Tryd.prog 106 = some (24, true) := by kernel_rfl
@[simp] theorem tk106 : tkind Tryd.prog 106 = 0 := by kernel_rfl
@[simp] theorem ti106 : isIface Tryd.prog 106 = false := by kernel_rfl
@[simp] theorem tstn106 : isString Tryd.prog 106 = false := by kernel_rfl
@[simp] theorem tbyn106 : isBytes Tryd.prog 106 = false := by kernel_rfl
@[simp] theorem ta106 : tarr Tryd.prog 106 = some (24, 1, false) := by kernel_rfl
@[simp] theorem tz106 : tzero Tryd.prog 106 = some (.agg [.p (.int .u8 0), .p (.int .u8 0), .p (.int .u8 0), .p (.int .u8 0), .p (.int .u8 0), .p (.int .u8 0), .p (.int .u8 0), .p (.int .u8 0), .p (.int .u8 0), .p (.int .u8 0), .p (.int .u8 0), .p (.int .u8 0), .p (.int .u8 0), .p (.int .u8 0), .p (.int .u8 0), .p (.int .u8 0), .p (.int .u8 0), .p (.int .u8 0), .p (.int .u8 0), .p (.int .u8 0), .p (.int .u8 0), .p (.int .u8 0), .p (.int .u8 0), .p (.int .u8 0)]) := by kernel_rfl
@[simp] theorem ts112 : tsize Tryd.prog 112 = some (20, true) := by kernel_rfl
@[simp] theorem tk112 : tkind Tryd.prog 112 = 0 := by kernel_rfl
@[simp] theorem ti112 : isIface Tryd.prog 112 = false := by kernel_rfl
@[simp] theorem tstn112 : isString Tryd.prog 112 = false := by kernel_rfl
@[simp] theorem tbyn112 : isBytes Tryd.prog 112 = false := by kernel_rfl
@[simp] theorem ta112 : tarr Tryd.prog 112 = some (20, 1, false) := by kernel_rfl
@[simp] theorem tz112 : tzero Tryd.prog 112 = some (.agg [.p (.int .u64 0), .p (.int .u64 0), .p (.int .u64 0), .p (.int .u64 0), .p (.int .u64 0), .p (.int .u64 0), .p (.int .u64 0), .p (.int .u64 0), .p (.int .u64 0), .p (.int .u64 0), .p (.int .u64 0), .p (.int .u64 0), .p (.int .u64 0), .p (.int .u64 0), .p (.int .u64 0), .p (.int .u64 0), .p (.int .u64 0), .p (.int .u64 0), .p (.int .u64 0), .p (.int .u64 0)]) := by kernel_rfl
@[simp] theorem ts113 : tsize Tryd.prog 113 = some (1, false) := by kernel_rfl
@[simp] theorem tk113 : tkind Tryd.prog 113 = 0 := by kernel_rfl
@[simp] theorem ti113 : isIface Tryd.prog 113 = false := by kernel_rfl
@[simp] theorem tl113 : tleaf Tryd.prog 113 = 2 := by kernel_rfl
@[simp] theorem tu113 : Tryd.prog.underlying 113 = some (.int .u32) := by kernel_rfl
@[simp] theorem tstn113 : isString Tryd.prog 113 = false := by kernel_rfl
@[simp] theorem tbyn113 : isBytes Tryd.prog 113 = false := by kernel_rfl
@[simp] theorem tz113 : tzero Tryd.prog 113 = some (.p (.int .u32 0)) := by kernel_rfl
@[simp] theorem ts114 : tsize Tryd.prog 114 = some (65, true) := by kernel_rfl
@[simp] theorem tk114 : tkind Tryd.prog 114 = 0 := by kernel_rfl
@[simp] theorem ti114 : isIface Tryd.prog 114 = false := by kernel_rfl
@[simp] theorem tstn114 : isString Tryd.prog 114 = false := by kernel_rfl
@[simp] theorem tbyn114 : isBytes Tryd.prog 114 = false := by kernel_rfl
@[simp] theorem ta114 : tarr Tryd.prog 114 = some (65, 1, false) := by kernel_rfl
@[simp] theorem ts118 : tsize Tryd.prog 118 = some (32, true) := by kernel_rfl
@[simp] theorem tk118 : tkind Tryd.prog 118 = 0 := by kernel_rfl
@[simp] theorem ti118 : isIface Tryd.prog 118 = false := by kernel_rfl
@[simp] theorem tstn118 : isString Tryd.prog 118 = false := by kernel_rfl
@[simp] theorem tbyn118 : isBytes Tryd.prog 118 = false := by kernel_rfl
@[simp] theorem ta118 : tarr Tryd.prog 118 = some (32, 1, false) := by kernel_rfl
@[simp] theorem tz118 : tzero Tryd.prog 118 = some (.agg [.p (.int .u8 0), .p (.int .u8 0), .p (.int .u8 0), .p (.int .u8 0), .p (.int .u8 0), .p (.int .u8 0), .p (.int .u8 0), .p (.int .u8 0), .p (.int .u8 0), .p (.int .u8 0), .p (.int .u8 0), .p (.int .u8 0), .p (.int .u8 0), .p (.int .u8 0), .p (.int .u8 0), .p (.int .u8 0), .p (.int .u8 0), .p (.int .u8 0), .p (.int .u8 0), .p (.int .u8 0), .p (.int .u8 0), .p (.int .u8 0), .p (.int .u8 0), .p (.int .u8 0), .p (.int .u8 0), .p (.int .u8 0), .p (.int .u8 0), .p (.int .u8 0), .p (.int .u8 0), .p (.int .u8 0), .p (.int .u8 0), .p (.int .u8 0)]) := by kernel_rfl
@[simp] theorem ts119 : tsize Tryd.prog 119 = some (64, true) := by kernel_rfl
@[simp] theorem tk119 : tkind Tryd.prog 119 = 0 := by kernel_rfl
@[simp] theorem ti119 : isIface Tryd.prog 119 = false := by kernel_rfl
@[simp] theorem tstn119 : isString Tryd.prog 119 = false := by kernel_rfl
@[simp] theorem tbyn119 : isBytes Tryd.prog 119 = false := by kernel_rfl
@[simp] theorem ta119 : tarr Tryd.prog 119 = some (64, 1, false) := by kernel_rfl
end Go.AL
