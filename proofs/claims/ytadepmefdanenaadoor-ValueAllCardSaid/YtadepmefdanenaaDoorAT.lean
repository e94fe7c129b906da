import Derived.Test.YtadepmefdanenaaDoorA12
import Derived.Test.YtadepmefdanenaaDoorProg
/-! What the logic wants to know of the types. -/
namespace Go.AL
open Go.Proofs
@[simp] theorem ts2 : tsize Tryd.prog 2 = some (1, false) := by kernel_rfl
@[simp] theorem tk2 : tkind Tryd.prog 2 = 0 := by kernel_rfl
@[simp] theorem ti2 : isIface Tryd.prog 2 = false := by kernel_rfl
@[simp] theorem tl2 : tleaf Tryd.prog 2 = 2 := by kernel_rfl
@[simp] theorem tu2 : Tryd.prog.underlying 2 = some (.int .i64) := by kernel_rfl
@[simp] theorem tstn2 : isString Tryd.prog 2 = false := by kernel_rfl
@[simp] theorem tbyn2 : isBytes Tryd.prog 2 = false := by kernel_rfl
@[simp] theorem tz2 : tzero Tryd.prog 2 = some (.p (.int .i64 0)) := by kernel_rfl
@[simp] theorem ts3 : tsize Tryd.prog 3 = some (1, false) := by kernel_rfl
@[simp] theorem tk3 : tkind Tryd.prog 3 = 0 := by kernel_rfl
@[simp] theorem ti3 : isIface Tryd.prog 3 = false := by kernel_rfl
@[simp] theorem tl3 : tleaf Tryd.prog 3 = 2 := by kernel_rfl
@[simp] theorem tu3 : Tryd.prog.underlying 3 = some (.int .i64) := by kernel_rfl
@[simp] theorem tstn3 : isString Tryd.prog 3 = false := by kernel_rfl
@[simp] theorem tbyn3 : isBytes Tryd.prog 3 = false := by kernel_rfl
@[simp] theorem tz3 : tzero Tryd.prog 3 = some (.p (.int .i64 0)) := by kernel_rfl
@[simp] theorem ts4 : tsize Tryd.prog 4 = some (1, false) := by kernel_rfl
@[simp] theorem tk4 : tkind Tryd.prog 4 = 1 := by kernel_rfl
@[simp] theorem ti4 : isIface Tryd.prog 4 = false := by kernel_rfl
@[simp] theorem tl4 : tleaf Tryd.prog 4 = 1 := by kernel_rfl
@[simp] theorem tu4 : Tryd.prog.underlying 4 = some .bool := by kernel_rfl
@[simp] theorem tstn4 : isString Tryd.prog 4 = false := by kernel_rfl
@[simp] theorem tbyn4 : isBytes Tryd.prog 4 = false := by kernel_rfl
@[simp] theorem tz4 : tzero Tryd.prog 4 = some (.p (.bool false)) := by kernel_rfl
@[simp] theorem ts5 : tsize Tryd.prog 5 = some (1, false) := by kernel_rfl
@[simp] theorem tk5 : tkind Tryd.prog 5 = 0 := by kernel_rfl
@[simp] theorem ti5 : isIface Tryd.prog 5 = false := by kernel_rfl
@[simp] theorem tl5 : tleaf Tryd.prog 5 = 2 := by kernel_rfl
@[simp] theorem tu5 : Tryd.prog.underlying 5 = some (.int .u8) := by kernel_rfl
@[simp] theorem tstn5 : isString Tryd.prog 5 = false := by kernel_rfl
@[simp] theorem tbyn5 : isBytes Tryd.prog 5 = false := by kernel_rfl
@[simp] theorem tz5 : tzero Tryd.prog 5 = some (.p (.int .u8 0)) := by kernel_rfl
@[simp] theorem ts9 : tsize Tryd.prog 9 = some (1, false) := by kernel_rfl
@[simp] theorem tk9 : tkind Tryd.prog 9 = 0 := by kernel_rfl
@[simp] theorem ti9 : isIface Tryd.prog 9 = false := by kernel_rfl
@[simp] theorem tl9 : tleaf Tryd.prog 9 = 3 := by kernel_rfl
@[simp] theorem tstr9 : isString Tryd.prog 9 = true := by kernel_rfl
@[simp] theorem tu9 : Tryd.prog.underlying 9 = some .string := by kernel_rfl
@[simp] theorem tbyn9 : isBytes Tryd.prog 9 = false := by kernel_rfl
@[simp] theorem tz9 : tzero Tryd.prog 9 = some (.p (.string ⟨#[]⟩)) := by kernel_rfl
@[simp] theorem ts12 : tsize Tryd.prog 12 = some (1, false) := by kernel_rfl
@[simp] theorem tk12 : tkind Tryd.prog 12 = 0 := by kernel_rfl
@[simp] theorem ti12 : isIface Tryd.prog 12 = false := by kernel_rfl
@[simp] theorem tl12 : tleaf Tryd.prog 12 = 2 := by kernel_rfl
@[simp] theorem tu12 : Tryd.prog.underlying 12 = some (.int .u64) := by kernel_rfl
@[simp] theorem tstn12 : isString Tryd.prog 12 = false := by kernel_rfl
@[simp] theorem tbyn12 : isBytes Tryd.prog 12 = false := by kernel_rfl
@[simp] theorem tz12 : tzero Tryd.prog 12 = some (.p (.int .u64 0)) := by kernel_rfl
@[simp] theorem ts13 : tsize Tryd.prog 13 = some (2, true) := by kernel_rfl
@[simp] theorem tk13 : tkind Tryd.prog 13 = 0 := by kernel_rfl
@[simp] theorem ti13 : isIface Tryd.prog 13 = false := by kernel_rfl
@[simp] theorem tstn13 : isString Tryd.prog 13 = false := by kernel_rfl
@[simp] theorem tbyn13 : isBytes Tryd.prog 13 = false := by kernel_rfl
@[simp] theorem tf13_0 : tfield Tryd.prog 13 0 = some (0, 1, false) := by kernel_rfl
@[simp] theorem tf13_1 : tfield Tryd.prog 13 1 = some (1, 1, false) := by kernel_rfl
@[simp] theorem tp13 : tplaces Tryd.prog 13 = some [(0, 1), (1, 1)] := by kernel_rfl
@[simp] theorem tz13 : tzero Tryd.prog 13 = some (.agg [.p (.string ⟨#[]⟩), .p (.int .u64 0)]) := by kernel_rfl
@[simp] theorem ts20 : tsize Tryd.prog 20 = some (1, false) := by kernel_rfl
@[simp] theorem tk20 : tkind Tryd.prog 20 = 3 := by kernel_rfl
@[simp] theorem ti20 : isIface Tryd.prog 20 = true := by kernel_rfl
@[simp] theorem tstn20 : isString Tryd.prog 20 = false := by kernel_rfl
@[simp] theorem tbyn20 : isBytes Tryd.prog 20 = false := by kernel_rfl
@[simp] theorem tz20 : tzero Tryd.prog 20 = some (.p (.nilIface)) := by kernel_rfl
@[simp] theorem ts21 : tsize Tryd.prog 21 = some (1, false) := by kernel_rfl
@[simp] theorem tk21 : tkind Tryd.prog 21 = 0 := by kernel_rfl
@[simp] theorem ti21 : isIface Tryd.prog 21 = false := by kernel_rfl
@[simp] theorem tl21 : tleaf Tryd.prog 21 = 2 := by kernel_rfl
@[simp] theorem tu21 : Tryd.prog.underlying 21 = some (.int .i32) := by kernel_rfl
@[simp] theorem tstn21 : isString Tryd.prog 21 = false := by kernel_rfl
@[simp] theorem tbyn21 : isBytes Tryd.prog 21 = false := by kernel_rfl
@[simp] theorem tz21 : tzero Tryd.prog 21 = some (.p (.int .i32 0)) := by kernel_rfl
@[simp] theorem ts22 : tsize Tryd.prog 22 = some (2, true) := by kernel_rfl
@[simp] theorem tk22 : tkind Tryd.prog 22 = 0 := by kernel_rfl
@[simp] theorem ti22 : isIface Tryd.prog 22 = false := by kernel_rfl
@[simp] theorem tq22 : teqok Tryd.prog 22 = true := by kernel_rfl
@[simp] theorem tg22 : tflds Tryd.prog 22 = some [(3, 0), (3, 1)] := by kernel_rfl
@[simp] theorem tstn22 : isString Tryd.prog 22 = false := by kernel_rfl
@[simp] theorem tbyn22 : isBytes Tryd.prog 22 = false := by kernel_rfl
@[simp] theorem tf22_0 : tfield Tryd.prog 22 0 = some (0, 1, false) := by kernel_rfl
@[simp] theorem tf22_1 : tfield Tryd.prog 22 1 = some (1, 1, false) := by kernel_rfl
@[simp] theorem tp22 : tplaces Tryd.prog 22 = some [(0, 1), (1, 1)] := by kernel_rfl
@[simp] theorem tz22 : tzero Tryd.prog 22 = some (.agg [.p (.int .i64 0), .p (.int .i64 0)]) := by kernel_rfl
@[simp] theorem ts23 : tsize Tryd.prog 23 = some (2, true) := by kernel_rfl
@[simp] theorem tk23 : tkind Tryd.prog 23 = 0 := by kernel_rfl
@[simp] theorem ti23 : isIface Tryd.prog 23 = false := by kernel_rfl
@[simp] theorem tq23 : teqok Tryd.prog 23 = true := by kernel_rfl
@[simp] theorem tg23 : tflds Tryd.prog 23 = some [(3, 0), (3, 1)] := by kernel_rfl
@[simp] theorem tstn23 : isString Tryd.prog 23 = false := by kernel_rfl
@[simp] theorem tbyn23 : isBytes Tryd.prog 23 = false := by kernel_rfl
@[simp] theorem tf23_0 : tfield Tryd.prog 23 0 = some (0, 1, false) := by kernel_rfl
@[simp] theorem tf23_1 : tfield Tryd.prog 23 1 = some (1, 1, false) := by kernel_rfl
@[simp] theorem tp23 : tplaces Tryd.prog 23 = some [(0, 1), (1, 1)] := by kernel_rfl
@[simp] theorem tz23 : tzero Tryd.prog 23 = some (.agg [.p (.int .i64 0), .p (.int .i64 0)]) := by kernel_rfl
@[simp] theorem ts25 : tsize Tryd.prog 25 = some (1, false) := by kernel_rfl
@[simp] theorem tk25 : tkind Tryd.prog 25 = 0 := by kernel_rfl
@[simp] theorem ti25 : isIface Tryd.prog 25 = false := by kernel_rfl
@[simp] theorem tl25 : tleaf Tryd.prog 25 = 2 := by kernel_rfl
@[simp] theorem tu25 : Tryd.prog.underlying 25 = some (.int .i64) := by kernel_rfl
@[simp] theorem tstn25 : isString Tryd.prog 25 = false := by kernel_rfl
@[simp] theorem tbyn25 : isBytes Tryd.prog 25 = false := by kernel_rfl
@[simp] theorem tz25 : tzero Tryd.prog 25 = some (.p (.int .i64 0)) := by kernel_rfl
@[simp] theorem ts36 : tsize Tryd.prog 36 = some (1, false) := by kernel_rfl
@[simp] theorem tk36 : tkind Tryd.prog 36 = 0 := by kernel_rfl
@[simp] theorem ti36 : isIface Tryd.prog 36 = false := by kernel_rfl
@[simp] theorem tl36 : tleaf Tryd.prog 36 = 2 := by kernel_rfl
@[simp] theorem tu36 : Tryd.prog.underlying 36 = some (.int .u16) := by kernel_rfl
@[simp] theorem tstn36 : isString Tryd.prog 36 = false := by kernel_rfl
@[simp] theorem tbyn36 : isBytes Tryd.prog 36 = false := by kernel_rfl
@[simp] theorem tz36 : tzero Tryd.prog 36 = some (.p (.int .u16 0)) := by kernel_rfl
@[simp] theorem ts37 : tsize Tryd.prog 37 = some (4, true) := by kernel_rfl
@[simp] theorem tk37 : tkind Tryd.prog 37 = 0 := by kernel_rfl
@[simp] theorem ti37 : isIface Tryd.prog 37 = false := by kernel_rfl
@[simp] theorem tq37 : teqok Tryd.prog 37 = true := by kernel_rfl
@[simp] theorem tg37 : tflds Tryd.prog 37 = some [(23, 0), (23, 2)] := by kernel_rfl
@[simp] theorem tstn37 : isString Tryd.prog 37 = false := by kernel_rfl
@[simp] theorem tbyn37 : isBytes Tryd.prog 37 = false := by kernel_rfl
@[simp] theorem tf37_0 : tfield Tryd.prog 37 0 = some (0, 2, true) := by kernel_rfl
@[simp] theorem tf37_1 : tfield Tryd.prog 37 1 = some (2, 2, true) := by kernel_rfl
@[simp] theorem tp37 : tplaces Tryd.prog 37 = some [(0, 2), (2, 2)] := by kernel_rfl
@[simp] theorem tz37 : tzero Tryd.prog 37 = some (.agg [.p (.int .i64 0), .p (.int .i64 0), .p (.int .i64 0), .p (.int .i64 0)]) := by kernel_rfl
@[simp] theorem ts38 : tsize Tryd.prog 38 = some (4, true) := by kernel_rfl
@[simp] theorem tk38 : tkind Tryd.prog 38 = 0 := by kernel_rfl
@[simp] theorem ti38 : isIface Tryd.prog 38 = false := by kernel_rfl
@[simp] theorem tq38 : teqok Tryd.prog 38 = true := by kernel_rfl
@[simp] theorem tg38 : tflds Tryd.prog 38 = some [(23, 0), (23, 2)] := by kernel_rfl
@[simp] theorem tstn38 : isString Tryd.prog 38 = false := by kernel_rfl
@[simp] theorem tbyn38 : isBytes Tryd.prog 38 = false := by kernel_rfl
@[simp] theorem tf38_0 : tfield Tryd.prog 38 0 = some (0, 2, true) := by kernel_rfl
@[simp] theorem tf38_1 : tfield Tryd.prog 38 1 = some (2, 2, true) := by kernel_rfl
@[simp] theorem tp38 : tplaces Tryd.prog 38 = some [(0, 2), (2, 2)] := by kernel_rfl
@[simp] theorem tz38 : tzero Tryd.prog 38 = some (.agg [.p (.int .i64 0), .p (.int .i64 0), .p (.int .i64 0), .p (.int .i64 0)]) := by kernel_rfl
@[simp] theorem ts42 : tsize Tryd.prog 42 = some (1, false) := by kernel_rfl
@[simp] theorem tk42 : tkind Tryd.prog 42 = 4 := by kernel_rfl
@[simp] theorem ti42 : isIface Tryd.prog 42 = false := by kernel_rfl
@[simp] theorem tby42 : isBytes Tryd.prog 42 = false := by kernel_rfl
@[simp] theorem tstn42 : isString Tryd.prog 42 = false := by kernel_rfl
@[simp] theorem tsl42 : isSlice Tryd.prog 42 = true := by kernel_rfl
@[simp] theorem te42 : telem Tryd.prog 42 = some (2, true, 16) := by kernel_rfl
@[simp] theorem tet42 : telemT Tryd.prog 42 = some 23 := by kernel_rfl
@[simp] theorem tz42 : tzero Tryd.prog 42 = some (.p (.slice none 0 0)) := by kernel_rfl
@[simp] theorem ts49 : tsize Tryd.prog 49 = some (1, false) := by kernel_rfl
@[simp] theorem tk49 : tkind Tryd.prog 49 = 0 := by kernel_rfl
@[simp] theorem ti49 : isIface Tryd.prog 49 = false := by kernel_rfl
@[simp] theorem tl49 : tleaf Tryd.prog 49 = 2 := by kernel_rfl
@[simp] theorem tu49 : Tryd.prog.underlying 49 = some (.int .i64) := by kernel_rfl
@[simp] theorem tstn49 : isString Tryd.prog 49 = false := by kernel_rfl
@[simp] theorem tbyn49 : isBytes Tryd.prog 49 = false := by kernel_rfl
@[simp] theorem tz49 : tzero Tryd.prog 49 = some (.p (.int .i64 0)) := by kernel_rfl
@[simp] theorem ts50 : tsize Tryd.prog 50 = some (2, true) := by kernel_rfl
@[simp] theorem tk50 : tkind Tryd.prog 50 = 0 := by kernel_rfl
@[simp] theorem ti50 : isIface Tryd.prog 50 = false := by kernel_rfl
@[simp] theorem tq50 : teqok Tryd.prog 50 = true := by kernel_rfl
@[simp] theorem tg50 : tflds Tryd.prog 50 = some [(3, 0), (49, 1)] := by kernel_rfl
@[simp] theorem tstn50 : isString Tryd.prog 50 = false := by kernel_rfl
@[simp] theorem tbyn50 : isBytes Tryd.prog 50 = false := by kernel_rfl
@[simp] theorem tf50_0 : tfield Tryd.prog 50 0 = some (0, 1, false) := by kernel_rfl
@[simp] theorem tf50_1 : tfield Tryd.prog 50 1 = some (1, 1, false) := by kernel_rfl
@[simp] theorem tp50 : tplaces Tryd.prog 50 = some [(0, 1), (1, 1)] := by kernel_rfl
@[simp] theorem tz50 : tzero Tryd.prog 50 = some (.agg [.p (.int .i64 0), .p (.int .i64 0)]) := by kernel_rfl
@[simp] theorem ts51 : tsize Tryd.prog 51 = some (2, true) := by kernel_rfl
@[simp] theorem tk51 : tkind Tryd.prog 51 = 0 := by kernel_rfl
@[simp] theorem ti51 : isIface Tryd.prog 51 = false := by kernel_rfl
@[simp] theorem tq51 : teqok Tryd.prog 51 = true := by kernel_rfl
@[simp] theorem tg51 : tflds Tryd.prog 51 = some [(3, 0), (49, 1)] := by kernel_rfl
@[simp] theorem tstn51 : isString Tryd.prog 51 = false := by kernel_rfl
@[simp] theorem tbyn51 : isBytes Tryd.prog 51 = false := by kernel_rfl
@[simp] theorem tf51_0 : tfield Tryd.prog 51 0 = some (0, 1, false) := by kernel_rfl
@[simp] theorem tf51_1 : tfield Tryd.prog 51 1 = some (1, 1, false) := by kernel_rfl
@[simp] theorem tp51 : tplaces Tryd.prog 51 = some [(0, 1), (1, 1)] := by kernel_rfl
@[simp] theorem tz51 : tzero Tryd.prog 51 = some (.agg [.p (.int .i64 0), .p (.int .i64 0)]) := by kernel_rfl
@[simp] theorem ts59 : tsize Tryd.prog 59 = some (1, false) := by kernel_rfl
@[simp] theorem tk59 : tkind Tryd.prog 59 = 4 := by kernel_rfl
@[simp] theorem ti59 : isIface Tryd.prog 59 = false := by kernel_rfl
@[simp] theorem tby59 : isBytes Tryd.prog 59 = false := by kernel_rfl
@[simp] theorem tstn59 : isString Tryd.prog 59 = false := by kernel_rfl
@[simp] theorem tsl59 : isSlice Tryd.prog 59 = true := by kernel_rfl
@[simp] theorem te59 : telem Tryd.prog 59 = some (2, true, 16) := by kernel_rfl
@[simp] theorem tet59 : telemT Tryd.prog 59 = some 51 := by kernel_rfl
@[simp] theorem tz59 : tzero Tryd.prog 59 = some (.p (.slice none 0 0)) := by kernel_rfl
@[simp] theorem ts64 : tsize Tryd.prog 64 = some (20, true) := by kernel_rfl
@[simp] theorem tk64 : tkind Tryd.prog 64 = 0 := by kernel_rfl
@[simp] theorem ti64 : isIface Tryd.prog 64 = false := by kernel_rfl
@[simp] theorem tstn64 : isString Tryd.prog 64 = false := by kernel_rfl
@[simp] theorem tbyn64 : isBytes Tryd.prog 64 = false := by kernel_rfl
@[simp] theorem ta64 : tarr Tryd.prog 64 = some (10, 2, true) := by kernel_rfl
@[simp] theorem tz64 : tzero Tryd.prog 64 = some (.agg [.p (.int .i64 0), .p (.int .i64 0), .p (.int .i64 0), .p (.int .i64 0), .p (.int .i64 0), .p (.int .i64 0), .p (.int .i64 0), .p (.int .i64 0), .p (.int .i64 0), .p (.int .i64 0), .p (.int .i64 0), .p (.int .i64 0), .p (.int .i64 0), .p (.int .i64 0), .p (.int .i64 0), .p (.int .i64 0), .p (.int .i64 0), .p (.int .i64 0), .p (.int .i64 0), .p (.int .i64 0)]) := by kernel_rfl
@[simp] theorem ts65 : tsize Tryd.prog 65 = some (1, false) := by kernel_rfl
@[simp] theorem tk65 : tkind Tryd.prog 65 = 4 := by kernel_rfl
@[simp] theorem ti65 : isIface Tryd.prog 65 = false := by kernel_rfl
@[simp] theorem tby65 : isBytes Tryd.prog 65 = false := by kernel_rfl
@[simp] theorem tstn65 : isString Tryd.prog 65 = false := by kernel_rfl
@[simp] theorem tsl65 : isSlice Tryd.prog 65 = true := by kernel_rfl
@[simp] theorem te65 : telem Tryd.prog 65 = some (1, false, 16) := by kernel_rfl
@[simp] theorem tet65 : telemT Tryd.prog 65 = some 9 := by kernel_rfl
@[simp] theorem tz65 : tzero Tryd.prog 65 = some (.p (.slice none 0 0)) := by kernel_rfl
@[simp] theorem ts68 : tsize Tryd.prog 68 = some (1, false) := by kernel_rfl
@[simp] theorem tk68 : tkind Tryd.prog 68 = 3 := by kernel_rfl
@[simp] theorem ti68 : isIface Tryd.prog 68 = true := by kernel_rfl
@[simp] theorem tstn68 : isString Tryd.prog 68 = false := by kernel_rfl
@[simp] theorem tbyn68 : isBytes Tryd.prog 68 = false := by kernel_rfl
@[simp] theorem tz68 : tzero Tryd.prog 68 = some (.p (.nilIface)) := by kernel_rfl
@[simp] theorem ts69 : tsize Tryd.prog 69 = some (1, false) := by kernel_rfl
@[simp] theorem tk69 : tkind Tryd.prog 69 = 3 := by kernel_rfl
@[simp] theorem ti69 : isIface Tryd.prog 69 = true := by kernel_rfl
@[simp] theorem tstn69 : isString Tryd.prog 69 = false := by kernel_rfl
@[simp] theorem tbyn69 : isBytes Tryd.prog 69 = false := by kernel_rfl
@[simp] theorem tz69 : tzero Tryd.prog 69 = some (.p (.nilIface)) := by kernel_rfl
@[simp] theorem ts72 : tsize Tryd.prog 72 = some (1, false) := by kernel_rfl
@[simp] theorem tk72 : tkind Tryd.prog 72 = 4 := by kernel_rfl
@[simp] theorem ti72 : isIface Tryd.prog 72 = false := by kernel_rfl
@[simp] theorem tby72 : isBytes Tryd.prog 72 = true := by kernel_rfl
@[simp] theorem tstn72 : isString Tryd.prog 72 = false := by kernel_rfl
@[simp] theorem tsl72 : isSlice Tryd.prog 72 = true := by kernel_rfl
@[simp] theorem te72 : telem Tryd.prog 72 = some (1, false, 1) := by kernel_rfl
@[simp] theorem tet72 : telemT Tryd.prog 72 = some 5 := by kernel_rfl
@[simp] theorem tz72 : tzero Tryd.prog 72 = some (.p (.slice none 0 0)) := by kernel_rfl
@[simp] theorem ts74 : tsize Tryd.prog 74 = some (1, false) := by kernel_rfl
@[simp] theorem tk74 : tkind Tryd.prog 74 = 0 := by kernel_rfl
@[simp] theorem ti74 : isIface Tryd.prog 74 = false := by kernel_rfl
@[simp] theorem tu74 : Tryd.prog.underlying 74 = some (.complex .f64) := by kernel_rfl
@[simp] theorem tstn74 : isString Tryd.prog 74 = false := by kernel_rfl
@[simp] theorem tbyn74 : isBytes Tryd.prog 74 = false := by kernel_rfl
@[simp] theorem tz74 : tzero Tryd.prog 74 = some (.p (.complex .f64 0 0)) := by kernel_rfl
@[simp] theorem ts75 : tsize Tryd.prog 75 = some (1, false) := by kernel_rfl
@[simp] theorem tk75 : tkind Tryd.prog 75 = 0 := by kernel_rfl
@[simp] theorem ti75 : isIface Tryd.prog 75 = false := by kernel_rfl
@[simp] theorem tu75 : Tryd.prog.underlying 75 = some (.complex .f64) := by kernel_rfl
@[simp] theorem tstn75 : isString Tryd.prog 75 = false := by kernel_rfl
@[simp] theorem tbyn75 : isBytes Tryd.prog 75 = false := by kernel_rfl
@[simp] theorem tz75 : tzero Tryd.prog 75 = some (.p (.complex .f64 0 0)) := by kernel_rfl
@[simp] theorem ts87 : tsize Tryd.prog 87 = some (1, false) := by kernel_rfl
@[simp] theorem tk87 : tkind Tryd.prog 87 = 5 := by kernel_rfl
@[simp] theorem ti87 : isIface Tryd.prog 87 = false := by kernel_rfl
@[simp] theorem tstn87 : isString Tryd.prog 87 = false := by kernel_rfl
@[simp] theorem tbyn87 : isBytes Tryd.prog 87 = false := by kernel_rfl
@[simp] theorem tmap87 : isMapT Tryd.prog 87 = true := by kernel_rfl
@[simp] theorem tz87 : tzero Tryd.prog 87 = some (.p (.map none)) := by kernel_rfl
@[simp] theorem ts96 : tsize Tryd.prog 96 = some (1, false) := by kernel_rfl
@[simp] theorem tk96 : tkind Tryd.prog 96 = 0 := by kernel_rfl
@[simp] theorem ti96 : isIface Tryd.prog 96 = false := by kernel_rfl
@[simp] theorem tl96 : tleaf Tryd.prog 96 = 2 := by kernel_rfl
@[simp] theorem tu96 : Tryd.prog.underlying 96 = some (.int .u64) := by kernel_rfl
@[simp] theorem tstn96 : isString Tryd.prog 96 = false := by kernel_rfl
@[simp] theorem tbyn96 : isBytes Tryd.prog 96 = false := by kernel_rfl
@[simp] theorem tz96 : tzero Tryd.prog 96 = some (.p (.int .u64 0)) := by kernel_rfl
@[simp] theorem ts98 : tsize Tryd.prog 98 = some (1, false) := by kernel_rfl
@[simp] theorem tk98 : tkind Tryd.prog 98 = 0 := by kernel_rfl
@[simp] theorem ti98 : isIface Tryd.prog 98 = false := by kernel_rfl
@[simp] theorem tu98 : Tryd.prog.underlying 98 = some (.float .f64) := by kernel_rfl
@[simp] theorem tstn98 : isString Tryd.prog 98 = false := by kernel_rfl
@[simp] theorem tbyn98 : isBytes Tryd.prog 98 = false := by kernel_rfl
@[simp] theorem tz98 : tzero Tryd.prog 98 = some (.p (.float .f64 0)) := by kernel_rfl
@[simp] theorem ts106 : tsize Tryd.prog 106 = some (1, false) := by kernel_rfl
@[simp] theorem tk106 : tkind Tryd.prog 106 = 0 := by kernel_rfl
@[simp] theorem ti106 : isIface Tryd.prog 106 = false := by kernel_rfl
@[simp] theorem tl106 : tleaf Tryd.prog 106 = 2 := by kernel_rfl
@[simp] theorem tu106 : Tryd.prog.underlying 106 = some (.int .i64) := by kernel_rfl
@[simp] theorem tstn106 : isString Tryd.prog 106 = false := by kernel_rfl
@[simp] theorem tbyn106 : isBytes Tryd.prog 106 = false := by kernel_rfl
@[simp] theorem tz106 : tzero Tryd.prog 106 = some (.p (.int .i64 0)) := by kernel_rfl
@[simp] theorem ts109 : tsize Tryd.prog 109 = some (1, false) := by kernel_rfl
@[simp] theorem tk109 : tkind Tryd.prog 109 = 2 := by kernel_rfl
@[simp] theorem ti109 : isIface Tryd.prog 109 = false := by kernel_rfl
@[simp] theorem tstn109 : isString Tryd.prog 109 = false := by kernel_rfl
@[simp] theorem tbyn109 : isBytes Tryd.prog 109 = false := by kernel_rfl
@[simp] theorem tz109 : tzero Tryd.prog 109 = some (.p (.pointer none)) := by kernel_rfl
@[simp] theorem ts113 : tsize Tryd.prog 113 = some (1, false) := by kernel_rfl
@[simp] theorem tk113 : tkind Tryd.prog 113 = 4 := by kernel_rfl
@[simp] theorem ti113 : isIface Tryd.prog 113 = false := by kernel_rfl
@[simp] theorem tby113 : isBytes Tryd.prog 113 = false := by kernel_rfl
@[simp] theorem tstn113 : isString Tryd.prog 113 = false := by kernel_rfl
@[simp] theorem tsl113 : isSlice Tryd.prog 113 = true := by kernel_rfl
@[simp] theorem te113 : telem Tryd.prog 113 = some (1, false, 1) := by kernel_rfl
@[simp] theorem tet113 : telemT Tryd.prog 113 = some 4 := by kernel_rfl
@[simp] theorem tz113 : tzero Tryd.prog 113 = some (.p (.slice none 0 0)) := by kernel_rfl
@[simp] theorem ts118 : tsize Tryd.prog 118 = some (1, false) := by kernel_rfl
@[simp] theorem tk118 : tkind Tryd.prog 118 = 0 := by kernel_rfl
@[simp] theorem ti118 : isIface Tryd.prog 118 = false := by kernel_rfl
@[simp] theorem tl118 : tleaf Tryd.prog 118 = 2 := by kernel_rfl
@[simp] theorem tu118 : Tryd.prog.underlying 118 = some (.int .u64) := by kernel_rfl
@[simp] theorem tstn118 : isString Tryd.prog 118 = false := by kernel_rfl
@[simp] theorem tbyn118 : isBytes Tryd.prog 118 = false := by kernel_rfl
@[simp] theorem tz118 : tzero Tryd.prog 118 = some (.p (.int .u64 0)) := by kernel_rfl
@[simp] theorem ts120 : tsize Tryd.prog 120 = some (3, true) := by kernel_rfl
@[simp] theorem tk120 : tkind Tryd.prog 120 = 0 := by kernel_rfl
@[simp] theorem ti120 : isIface Tryd.prog 120 = false := by kernel_rfl
@[simp] theorem tstn120 : isString Tryd.prog 120 = false := by kernel_rfl
@[simp] theorem tbyn120 : isBytes Tryd.prog 120 = false := by kernel_rfl
@[simp] theorem tf120_0 : tfield Tryd.prog 120 0 = some (0, 1, false) := by kernel_rfl
@[simp] theorem tf120_1 : tfield Tryd.prog 120 1 = some (1, 1, false) := by kernel_rfl
@[simp] theorem tf120_2 : tfield Tryd.prog 120 2 = some (2, 1, false) := by kernel_rfl
@[simp] theorem tp120 : tplaces Tryd.prog 120 = some [(0, 1), (1, 1), (2, 1)] := by kernel_rfl
@[simp] theorem tz120 : tzero Tryd.prog 120 = some (.agg [.p (.string ⟨#[]⟩), .p (.string ⟨#[]⟩), .p (.nilIface)]) := by kernel_rfl
@[simp] theorem ts121 : tsize Tryd.prog 121 = some (3, true) := by kernel_rfl
@[simp] theorem tk121 : tkind Tryd.prog 121 = 0 := by kernel_rfl
@[simp] theorem ti121 : isIface Tryd.prog 121 = false := by kernel_rfl
@[simp] theorem tstn121 : isString Tryd.prog 121 = false := by kernel_rfl
@[simp] theorem tbyn121 : isBytes Tryd.prog 121 = false := by kernel_rfl
@[simp] theorem tf121_0 : tfield Tryd.prog 121 0 = some (0, 1, false) := by kernel_rfl
@[simp] theorem tf121_1 : tfield Tryd.prog 121 1 = some (1, 1, false) := by kernel_rfl
@[simp] theorem tf121_2 : tfield Tryd.prog 121 2 = some (2, 1, false) := by kernel_rfl
@[simp] theorem tp121 : tplaces Tryd.prog 121 = some [(0, 1), (1, 1), (2, 1)] := by kernel_rfl
@[simp] theorem tz121 : tzero Tryd.prog 121 = some (.agg [.p (.string ⟨#[]⟩), .p (.string ⟨#[]⟩), .p (.nilIface)]) := by kernel_rfl
@[simp] theorem ts123 : tsize Tryd.prog 123 = some (24, true) := by kernel_rfl
@[simp] theorem tk123 : tkind Tryd.prog 123 = 0 := by kernel_rfl
@[simp] theorem ti123 : isIface Tryd.prog 123 = false := by kernel_rfl
@[simp] theorem tstn123 : isString Tryd.prog 123 = false := by kernel_rfl
@[simp] theorem tbyn123 : isBytes Tryd.prog 123 = false := by kernel_rfl
@[simp] theorem ta123 : tarr Tryd.prog 123 = some (24, 1, false) := by kernel_rfl
@[simp] theorem tz123 : tzero Tryd.prog 123 = some (.agg [.p (.int .u8 0), .p (.int .u8 0), .p (.int .u8 0), .p (.int .u8 0), .p (.int .u8 0), .p (.int .u8 0), .p (.int .u8 0), .p (.int .u8 0), .p (.int .u8 0), .p (.int .u8 0), .p (.int .u8 0), .p (.int .u8 0), .p (.int .u8 0), .p (.int .u8 0), .p (.int .u8 0), .p (.int .u8 0), .p (.int .u8 0), .p (.int .u8 0), .p (.int .u8 0), .p (.int .u8 0), .p (.int .u8 0), .p (.int .u8 0), .p (.int .u8 0), .p (.int .u8 0)]) := by kernel_rfl
@[simp] theorem ts129 : tsize Tryd.prog 129 = some (1, false) := by kernel_rfl
@[simp] theorem tk129 : tkind Tryd.prog 129 = 2 := by kernel_rfl
@[simp] theorem ti129 : isIface Tryd.prog 129 = false := by kernel_rfl
@[simp] theorem tstn129 : isString Tryd.prog 129 = false := by kernel_rfl
@[simp] theorem tbyn129 : isBytes Tryd.prog 129 = false := by kernel_rfl
@[simp] theorem tz129 : tzero Tryd.prog 129 = some (.p (.pointer none)) := by kernel_rfl
@[simp] theorem ts131 : tsize Tryd.prog 131 = some (1, true) := by kernel_rfl
@[simp] theorem tk131 : tkind Tryd.prog 131 = 0 := by kernel_rfl
@[simp] theorem ti131 : isIface Tryd.prog 131 = false := by kernel_rfl
@[simp] theorem tstn131 : isString Tryd.prog 131 = false := by kernel_rfl
@[simp] theorem tbyn131 : isBytes Tryd.prog 131 = false := by kernel_rfl
@[simp] theorem tf131_0 : tfield Tryd.prog 131 0 = some (0, 1, false) := by kernel_rfl
@[simp] theorem tp131 : tplaces Tryd.prog 131 = some [(0, 1)] := by kernel_rfl
@[simp] theorem tz131 : tzero Tryd.prog 131 = some (.agg [.p (.string ⟨#[]⟩)]) := by kernel_rfl
@[simp] theorem ts135 : tsize Tryd.prog 135 = some (20, true) := by kernel_rfl
@[simp] theorem tk135 : tkind Tryd.prog 135 = 0 := by kernel_rfl
@[simp] theorem ti135 : isIface Tryd.prog 135 = false := by kernel_rfl
@[simp] theorem tstn135 : isString Tryd.prog 135 = false := by kernel_rfl
@[simp] theorem tbyn135 : isBytes Tryd.prog 135 = false := by kernel_rfl
@[simp] theorem ta135 : tarr Tryd.prog 135 = some (20, 1, false) := by kernel_rfl
@[simp] theorem tz135 : tzero Tryd.prog 135 = some (.agg [.p (.int .u64 0), .p (.int .u64 0), .p (.int .u64 0), .p (.int .u64 0), .p (.int .u64 0), .p (.int .u64 0), .p (.int .u64 0), .p (.int .u64 0), .p (.int .u64 0), .p (.int .u64 0), .p (.int .u64 0), .p (.int .u64 0), .p (.int .u64 0), .p (.int .u64 0), .p (.int .u64 0), .p (.int .u64 0), .p (.int .u64 0), .p (.int .u64 0), .p (.int .u64 0), .p (.int .u64 0)]) := by kernel_rfl
@[simp] theorem ts136 : tsize Tryd.prog 136 = some (1, false) := by kernel_rfl
@[simp] theorem tk136 : tkind Tryd.prog 136 = 0 := by kernel_rfl
@[simp] theorem ti136 : isIface Tryd.prog 136 = false := by kernel_rfl
@[simp] theorem tl136 : tleaf Tryd.prog 136 = 2 := by kernel_rfl
@[simp] theorem tu136 : Tryd.prog.underlying 136 = some (.int .u32) := by kernel_rfl
@[simp] theorem tstn136 : isString Tryd.prog 136 = false := by kernel_rfl
@[simp] theorem tbyn136 : isBytes Tryd.prog 136 = false := by kernel_rfl
@[simp] theorem tz136 : tzero Tryd.prog 136 = some (.p (.int .u32 0)) := by kernel_rfl
@[simp] theorem ts137 : tsize Tryd.prog 137 = some (65, true) := by kernel_rfl
@[simp] theorem tk137 : tkind Tryd.prog 137 = 0 := by kernel_rfl
@[simp] theorem ti137 : isIface Tryd.prog 137 = false := by kernel_rfl
@[simp] theorem tstn137 : isString Tryd.prog 137 = false := by kernel_rfl
@[simp] theorem tbyn137 : isBytes Tryd.prog 137 = false := by kernel_rfl
@[simp] theorem ta137 : tarr Tryd.prog 137 = some (65, 1, false) := by kernel_rfl
@[simp] theorem ts140 : tsize Tryd.prog 140 = some (32, true) := by kernel_rfl
@[simp] theorem tk140 : tkind Tryd.prog 140 = 0 := by kernel_rfl
@[simp] theorem ti140 : isIface Tryd.prog 140 = false := by kernel_rfl
@[simp] theorem tstn140 : isString Tryd.prog 140 = false := by kernel_rfl
@[simp] theorem tbyn140 : isBytes Tryd.prog 140 = false := by kernel_rfl
@[simp] theorem ta140 : tarr Tryd.prog 140 = some (32, 1, false) := by kernel_rfl
@[simp] theorem tz140 : tzero Tryd.prog 140 = some (.agg [.p (.int .u8 0), .p (.int .u8 0), .p (.int .u8 0), .p (.int .u8 0), .p (.int .u8 0), .p (.int .u8 0), .p (.int .u8 0), .p (.int .u8 0), .p (.int .u8 0), .p (.int .u8 0), .p (.int .u8 0), .p (.int .u8 0), .p (.int .u8 0), .p (.int .u8 0), .p (.int .u8 0), .p (.int .u8 0), .p (.int .u8 0), .p (.int .u8 0), .p (.int .u8 0), .p (.int .u8 0), .p (.int .u8 0), .p (.int .u8 0), .p (.int .u8 0), .p (.int .u8 0), .p (.int .u8 0), .p (.int .u8 0), .p (.int .u8 0), .p (.int .u8 0), .p (.int .u8 0), .p (.int .u8 0), .p (.int .u8 0), .p (.int .u8 0)]) := by kernel_rfl
@[simp] theorem ts141 : tsize Tryd.prog 141 = some (64, true) := by kernel_rfl
@[simp] theorem tk141 : tkind Tryd.prog 141 = 0 := by kernel_rfl
@[simp] theorem ti141 : isIface Tryd.prog 141 = false := by kernel_rfl
@[simp] theorem tstn141 : isString Tryd.prog 141 = false := by kernel_rfl
@[simp] theorem tbyn141 : isBytes Tryd.prog 141 = false := by kernel_rfl
@[simp] theorem ta141 : tarr Tryd.prog 141 = some (64, 1, false) := by kernel_rfl
end Go.AL
