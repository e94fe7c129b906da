import Derived.Test.YtcicdckjlkekdaaDoorA12
import Derived.Test.YtcicdckjlkekdaaDoorProg
/-! What the logic wants to know of the types. -/
namespace Go.AL
open Go.Proofs
@[simp] theorem ts2 : tsize Tryd.prog 2 = some (1, false) := by kernel_rfl
@[simp] theorem tk2 : tkind Tryd.prog 2 = 0 := by kernel_rfl
@[simp] theorem ti2 : isIface Tryd.prog 2 = false := by kernel_rfl
@[simp] theorem tl2 : tleaf Tryd.prog 2 = 2 := by kernel_rfl
@[simp] theorem tu2 : Tryd.prog.underlying 2 = some (.int .i64) := by kernel_rfl
@[simp] theorem tstn2 : isString Tryd.prog 2 = false := by kernel_rfl
@[simp] theorem tbyn2 : isBytes Tryd.prog 2 = false := by kernel_rfl
@[simp] theorem tz2 : tzero Tryd.prog 2 = some (.p (.int .i64 0)) := by kernel_rfl
@[simp] theorem ts3 : tsize Tryd.prog 3 = some (1, false) := by kernel_rfl
@[simp] theorem tk3 : tkind Tryd.prog 3 = 0 := by kernel_rfl
@[simp] theorem ti3 : isIface Tryd.prog 3 = false := by kernel_rfl
@[simp] theorem tl3 : tleaf Tryd.prog 3 = 2 := by kernel_rfl
@[simp] theorem tu3 : Tryd.prog.underlying 3 = some (.int .i64) := by kernel_rfl
@[simp] theorem tstn3 : isString Tryd.prog 3 = false := by kernel_rfl
@[simp] theorem tbyn3 : isBytes Tryd.prog 3 = false := by kernel_rfl
@[simp] theorem tz3 : tzero Tryd.prog 3 = some (.p (.int .i64 0)) := by kernel_rfl
@[simp] theorem ts4 : tsize Tryd.prog 4 = some (1, false) := by kernel_rfl
@[simp] theorem tk4 : tkind Tryd.prog 4 = 1 := by kernel_rfl
@[simp] theorem ti4 : isIface Tryd.prog 4 = false := by kernel_rfl
@[simp] theorem tl4 : tleaf Tryd.prog 4 = 1 := by kernel_rfl
@[simp] theorem tu4 : Tryd.prog.underlying 4 = some .bool := by kernel_rfl
@[simp] theorem tstn4 : isString Tryd.prog 4 = false := by kernel_rfl
@[simp] theorem tbyn4 : isBytes Tryd.prog 4 = false := by kernel_rfl
@[simp] theorem tz4 : tzero Tryd.prog 4 = some (.p (.bool false)) := by kernel_rfl
@[simp] theorem ts5 : tsize Tryd.prog 5 = some (1, false) := by kernel_rfl
@[simp] theorem tk5 : tkind Tryd.prog 5 = 0 := by kernel_rfl
@[simp] theorem ti5 : isIface Tryd.prog 5 = false := by kernel_rfl
@[simp] theorem tl5 : tleaf Tryd.prog 5 = 2 := by kernel_rfl
@[simp] theorem tu5 : Tryd.prog.underlying 5 = some (.int .u8) := by kernel_rfl
@[simp] theorem tstn5 : isString Tryd.prog 5 = false := by kernel_rfl
@[simp] theorem tbyn5 : isBytes Tryd.prog 5 = false := by kernel_rfl
@[simp] theorem tz5 : tzero Tryd.prog 5 = some (.p (.int .u8 0)) := by kernel_rfl
@[simp] theorem ts9 : tsize Tryd.prog 9 = some (1, false) := by kernel_rfl
@[simp] theorem tk9 : tkind Tryd.prog 9 = 0 := by kernel_rfl
@[simp] theorem ti9 : isIface Tryd.prog 9 = false := by kernel_rfl
@[simp] theorem tl9 : tleaf Tryd.prog 9 = 3 := by kernel_rfl
@[simp] theorem tstr9 : isString Tryd.prog 9 = true := by kernel_rfl
@[simp] theorem tu9 : Tryd.prog.underlying 9 = some .string := by kernel_rfl
@[simp] theorem tbyn9 : isBytes Tryd.prog 9 = false := by kernel_rfl
@[simp] theorem tz9 : tzero Tryd.prog 9 = some (.p (.string ⟨#[]⟩)) := by kernel_rfl
@[simp] theorem ts12 : tsize Tryd.prog 12 = some (1, false) := by kernel_rfl
@[simp] theorem tk12 : tkind Tryd.prog 12 = 0 := by kernel_rfl
@[simp] theorem ti12 : isIface Tryd.prog 12 = false := by kernel_rfl
@[simp] theorem tl12 : tleaf Tryd.prog 12 = 2 := by kernel_rfl
@[simp] theorem tu12 : Tryd.prog.underlying 12 = some (.int .u64) := by kernel_rfl
@[simp] theorem tstn12 : isString Tryd.prog 12 = false := by kernel_rfl
@[simp] theorem tbyn12 : isBytes Tryd.prog 12 = false := by kernel_rfl
@[simp] theorem tz12 : tzero Tryd.prog 12 = some (.p (.int .u64 0)) := by kernel_rfl
@[simp] theorem ts13 : tsize Tryd.prog 13 = some (2, true) := by kernel_rfl
@[simp] theorem tk13 : tkind Tryd.prog 13 = 0 := by kernel_rfl
@[simp] theorem ti13 : isIface Tryd.prog 13 = false := by kernel_rfl
@[simp] theorem tstn13 : isString Tryd.prog 13 = false := by kernel_rfl
@[simp] theorem tbyn13 : isBytes Tryd.prog 13 = false := by kernel_rfl
@[simp] theorem tf13_0 : tfield Tryd.prog 13 0 = some (0, 1, false) := by kernel_rfl
@[simp] theorem tf13_1 : tfield Tryd.prog 13 1 = some (1, 1, false) := by kernel_rfl
@[simp] theorem tp13 : tplaces Tryd.prog 13 = some [(0, 1), (1, 1)] := by kernel_rfl
@[simp] theorem tz13 : tzero Tryd.prog 13 = some (.agg [.p (.string ⟨#[]⟩), .p (.int .u64 0)]) := by kernel_rfl
@[simp] theorem ts20 : tsize Tryd.prog 20 = some (1, false) := by kernel_rfl
@[simp] theorem tk20 : tkind Tryd.prog 20 = 3 := by kernel_rfl
@[simp] theorem ti20 : isIface Tryd.prog 20 = true := by kernel_rfl
@[simp] theorem tstn20 : isString Tryd.prog 20 = false := by kernel_rfl
@[simp] theorem tbyn20 : isBytes Tryd.prog 20 = false := by kernel_rfl
@[simp] theorem tz20 : tzero Tryd.prog 20 = some (.p (.nilIface)) := by kernel_rfl
@[simp] theorem ts21 : tsize Tryd.prog 21 = some (1, false) := by kernel_rfl
@[simp] theorem tk21 : tkind Tryd.prog 21 = 0 := by kernel_rfl
@[simp] theorem ti21 : isIface Tryd.prog 21 = false := by kernel_rfl
@[simp] theorem tl21 : tleaf Tryd.prog 21 = 2 := by kernel_rfl
@[simp] theorem tu21 : Tryd.prog.underlying 21 = some (.int .i32) := by kernel_rfl
@[simp] theorem tstn21 : isString Tryd.prog 21 = false := by kernel_rfl
@[simp] theorem tbyn21 : isBytes Tryd.prog 21 = false := by kernel_rfl
@[simp] theorem tz21 : tzero Tryd.prog 21 = some (.p (.int .i32 0)) := by kernel_rfl
@[simp] theorem ts22 : tsize Tryd.prog 22 = some (1, false) := by kernel_rfl
@[simp] theorem tk22 : tkind Tryd.prog 22 = 0 := by kernel_rfl
@[simp] theorem ti22 : isIface Tryd.prog 22 = false := by kernel_rfl
@[simp] theorem tl22 : tleaf Tryd.prog 22 = 2 := by kernel_rfl
@[simp] theorem tu22 : Tryd.prog.underlying 22 = some (.int .i64) := by kernel_rfl
@[simp] theorem tstn22 : isString Tryd.prog 22 = false := by kernel_rfl
@[simp] theorem tbyn22 : isBytes Tryd.prog 22 = false := by kernel_rfl
@[simp] theorem tz22 : tzero Tryd.prog 22 = some (.p (.int .i64 0)) := by kernel_rfl
@[simp] theorem ts23 : tsize Tryd.prog 23 = some (2, true) := by kernel_rfl
@[simp] theorem tk23 : tkind Tryd.prog 23 = 0 := by kernel_rfl
@[simp] theorem ti23 : isIface Tryd.prog 23 = false := by kernel_rfl
@[simp] theorem tq23 : teqok Tryd.prog 23 = true := by kernel_rfl
@[simp] theorem tg23 : tflds Tryd.prog 23 = some [(3, 0), (22, 1)] := by kernel_rfl
@[simp] theorem tstn23 : isString Tryd.prog 23 = false := by kernel_rfl
@[simp] theorem tbyn23 : isBytes Tryd.prog 23 = false := by kernel_rfl
@[simp] theorem tf23_0 : tfield Tryd.prog 23 0 = some (0, 1, false) := by kernel_rfl
@[simp] theorem tf23_1 : tfield Tryd.prog 23 1 = some (1, 1, false) := by kernel_rfl
@[simp] theorem tp23 : tplaces Tryd.prog 23 = some [(0, 1), (1, 1)] := by kernel_rfl
@[simp] theorem tz23 : tzero Tryd.prog 23 = some (.agg [.p (.int .i64 0), .p (.int .i64 0)]) := by kernel_rfl
@[simp] theorem ts24 : tsize Tryd.prog 24 = some (2, true) := by kernel_rfl
@[simp] theorem tk24 : tkind Tryd.prog 24 = 0 := by kernel_rfl
@[simp] theorem ti24 : isIface Tryd.prog 24 = false := by kernel_rfl
@[simp] theorem tq24 : teqok Tryd.prog 24 = true := by kernel_rfl
@[simp] theorem tg24 : tflds Tryd.prog 24 = some [(3, 0), (22, 1)] := by kernel_rfl
@[simp] theorem tstn24 : isString Tryd.prog 24 = false := by kernel_rfl
@[simp] theorem tbyn24 : isBytes Tryd.prog 24 = false := by kernel_rfl
@[simp] theorem tf24_0 : tfield Tryd.prog 24 0 = some (0, 1, false) := by kernel_rfl
@[simp] theorem tf24_1 : tfield Tryd.prog 24 1 = some (1, 1, false) := by kernel_rfl
@[simp] theorem tp24 : tplaces Tryd.prog 24 = some [(0, 1), (1, 1)] := by kernel_rfl
@[simp] theorem tz24 : tzero Tryd.prog 24 = some (.agg [.p (.int .i64 0), .p (.int .i64 0)]) := by kernel_rfl
@[simp] theorem ts33 : tsize Tryd.prog 33 = some (1, false) := by kernel_rfl
@[simp] theorem tk33 : tkind Tryd.prog 33 = 4 := by kernel_rfl
@[simp] theorem ti33 : isIface Tryd.prog 33 = false := by kernel_rfl
@[simp] theorem tby33 : isBytes Tryd.prog 33 = false := by kernel_rfl
@[simp] theorem tstn33 : isString Tryd.prog 33 = false := by kernel_rfl
@[simp] theorem tsl33 : isSlice Tryd.prog 33 = true := by kernel_rfl
@[simp] theorem te33 : telem Tryd.prog 33 = some (2, true, 16) := by kernel_rfl
@[simp] theorem tet33 : telemT Tryd.prog 33 = some 24 := by kernel_rfl
@[simp] theorem tz33 : tzero Tryd.prog 33 = some (.p (.slice none 0 0)) := by kernel_rfl
@[simp] theorem ts38 : tsize Tryd.prog 38 = some (20, true) := by kernel_rfl
@[simp] theorem tk38 : tkind Tryd.prog 38 = 0 := by kernel_rfl
@[simp] theorem ti38 : isIface Tryd.prog 38 = false := by kernel_rfl
@[simp] theorem tstn38 : isString Tryd.prog 38 = false := by kernel_rfl
@[simp] theorem tbyn38 : isBytes Tryd.prog 38 = false := by kernel_rfl
@[simp] theorem ta38 : tarr Tryd.prog 38 = some (10, 2, true) := by kernel_rfl
@[simp] theorem tz38 : tzero Tryd.prog 38 = some (.agg [.p (.int .i64 0), .p (.int .i64 0), .p (.int .i64 0), .p (.int .i64 0), .p (.int .i64 0), .p (.int .i64 0), .p (.int .i64 0), .p (.int .i64 0), .p (.int .i64 0), .p (.int .i64 0), .p (.int .i64 0), .p (.int .i64 0), .p (.int .i64 0), .p (.int .i64 0), .p (.int .i64 0), .p (.int .i64 0), .p (.int .i64 0), .p (.int .i64 0), .p (.int .i64 0), .p (.int .i64 0)]) := by kernel_rfl
@[simp] theorem ts39 : tsize Tryd.prog 39 = some (1, false) := by kernel_rfl
@[simp] theorem tk39 : tkind Tryd.prog 39 = 4 := by kernel_rfl
@[simp] theorem ti39 : isIface Tryd.prog 39 = false := by kernel_rfl
@[simp] theorem tby39 : isBytes Tryd.prog 39 = false := by kernel_rfl
@[simp] theorem tstn39 : isString Tryd.prog 39 = false := by kernel_rfl
@[simp] theorem tsl39 : isSlice Tryd.prog 39 = true := by kernel_rfl
@[simp] theorem te39 : telem Tryd.prog 39 = some (1, false, 16) := by kernel_rfl
@[simp] theorem tet39 : telemT Tryd.prog 39 = some 9 := by kernel_rfl
@[simp] theorem tz39 : tzero Tryd.prog 39 = some (.p (.slice none 0 0)) := by kernel_rfl
@[simp] theorem ts41 : tsize Tryd.prog 41 = some (1, false) := by kernel_rfl
@[simp] theorem tk41 : tkind Tryd.prog 41 = 4 := by kernel_rfl
@[simp] theorem ti41 : isIface Tryd.prog 41 = false := by kernel_rfl
@[simp] theorem tby41 : isBytes Tryd.prog 41 = false := by kernel_rfl
@[simp] theorem tstn41 : isString Tryd.prog 41 = false := by kernel_rfl
@[simp] theorem tsl41 : isSlice Tryd.prog 41 = true := by kernel_rfl
@[simp] theorem te41 : telem Tryd.prog 41 = some (6, true, 56) := by kernel_rfl
@[simp] theorem tet41 : telemT Tryd.prog 41 = some 55 := by kernel_rfl
@[simp] theorem tz41 : tzero Tryd.prog 41 = some (.p (.slice none 0 0)) := by kernel_rfl
@[simp] theorem ts42 : tsize Tryd.prog 42 = some (1, false) := by kernel_rfl
@[simp] theorem tk42 : tkind Tryd.prog 42 = 0 := by kernel_rfl
@[simp] theorem ti42 : isIface Tryd.prog 42 = false := by kernel_rfl
@[simp] theorem tl42 : tleaf Tryd.prog 42 = 2 := by kernel_rfl
@[simp] theorem tu42 : Tryd.prog.underlying 42 = some (.int .i64) := by kernel_rfl
@[simp] theorem tstn42 : isString Tryd.prog 42 = false := by kernel_rfl
@[simp] theorem tbyn42 : isBytes Tryd.prog 42 = false := by kernel_rfl
@[simp] theorem tz42 : tzero Tryd.prog 42 = some (.p (.int .i64 0)) := by kernel_rfl
@[simp] theorem ts45 : tsize Tryd.prog 45 = some (1, false) := by kernel_rfl
@[simp] theorem tk45 : tkind Tryd.prog 45 = 4 := by kernel_rfl
@[simp] theorem ti45 : isIface Tryd.prog 45 = false := by kernel_rfl
@[simp] theorem tby45 : isBytes Tryd.prog 45 = false := by kernel_rfl
@[simp] theorem tstn45 : isString Tryd.prog 45 = false := by kernel_rfl
@[simp] theorem tsl45 : isSlice Tryd.prog 45 = true := by kernel_rfl
@[simp] theorem te45 : telem Tryd.prog 45 = some (6, true, 56) := by kernel_rfl
@[simp] theorem tet45 : telemT Tryd.prog 45 = some 75 := by kernel_rfl
@[simp] theorem tz45 : tzero Tryd.prog 45 = some (.p (.slice none 0 0)) := by kernel_rfl
@[simp] theorem ts51 : tsize Tryd.prog 51 = some (1, false) := by kernel_rfl
@[simp] theorem tk51 : tkind Tryd.prog 51 = 0 := by kernel_rfl
@[simp] theorem ti51 : isIface Tryd.prog 51 = false := by kernel_rfl
@[simp] theorem tl51 : tleaf Tryd.prog 51 = 2 := by kernel_rfl
@[simp] theorem tu51 : Tryd.prog.underlying 51 = some (.int .i64) := by kernel_rfl
@[simp] theorem tstn51 : isString Tryd.prog 51 = false := by kernel_rfl
@[simp] theorem tbyn51 : isBytes Tryd.prog 51 = false := by kernel_rfl
@[simp] theorem tz51 : tzero Tryd.prog 51 = some (.p (.int .i64 0)) := by kernel_rfl
@[simp] theorem ts52 : tsize Tryd.prog 52 = some (2, true) := by kernel_rfl
@[simp] theorem tk52 : tkind Tryd.prog 52 = 0 := by kernel_rfl
@[simp] theorem ti52 : isIface Tryd.prog 52 = false := by kernel_rfl
@[simp] theorem tq52 : teqok Tryd.prog 52 = true := by kernel_rfl
@[simp] theorem tg52 : tflds Tryd.prog 52 = some [(3, 0), (3, 1)] := by kernel_rfl
@[simp] theorem tstn52 : isString Tryd.prog 52 = false := by kernel_rfl
@[simp] theorem tbyn52 : isBytes Tryd.prog 52 = false := by kernel_rfl
@[simp] theorem tf52_0 : tfield Tryd.prog 52 0 = some (0, 1, false) := by kernel_rfl
@[simp] theorem tf52_1 : tfield Tryd.prog 52 1 = some (1, 1, false) := by kernel_rfl
@[simp] theorem tp52 : tplaces Tryd.prog 52 = some [(0, 1), (1, 1)] := by kernel_rfl
@[simp] theorem tz52 : tzero Tryd.prog 52 = some (.agg [.p (.int .i64 0), .p (.int .i64 0)]) := by kernel_rfl
@[simp] theorem ts53 : tsize Tryd.prog 53 = some (2, true) := by kernel_rfl
@[simp] theorem tk53 : tkind Tryd.prog 53 = 0 := by kernel_rfl
@[simp] theorem ti53 : isIface Tryd.prog 53 = false := by kernel_rfl
@[simp] theorem tq53 : teqok Tryd.prog 53 = true := by kernel_rfl
@[simp] theorem tg53 : tflds Tryd.prog 53 = some [(3, 0), (3, 1)] := by kernel_rfl
@[simp] theorem tstn53 : isString Tryd.prog 53 = false := by kernel_rfl
@[simp] theorem tbyn53 : isBytes Tryd.prog 53 = false := by kernel_rfl
@[simp] theorem tf53_0 : tfield Tryd.prog 53 0 = some (0, 1, false) := by kernel_rfl
@[simp] theorem tf53_1 : tfield Tryd.prog 53 1 = some (1, 1, false) := by kernel_rfl
@[simp] theorem tp53 : tplaces Tryd.prog 53 = some [(0, 1), (1, 1)] := by kernel_rfl
@[simp] theorem tz53 : tzero Tryd.prog 53 = some (.agg [.p (.int .i64 0), .p (.int .i64 0)]) := by kernel_rfl
@[simp] theorem ts54 : tsize Tryd.prog 54 = some (6, true) := by kernel_rfl
@[simp] theorem tk54 : tkind Tryd.prog 54 = 0 := by kernel_rfl
@[simp] theorem ti54 : isIface Tryd.prog 54 = false := by kernel_rfl
@[simp] theorem tq54 : teqok Tryd.prog 54 = true := by kernel_rfl
@[simp] theorem tg54 : tflds Tryd.prog 54 = some [(51, 0), (3, 1), (53, 2), (9, 4), (3, 5)] := by kernel_rfl
@[simp] theorem tstn54 : isString Tryd.prog 54 = false := by kernel_rfl
@[simp] theorem tbyn54 : isBytes Tryd.prog 54 = false := by kernel_rfl
@[simp] theorem tf54_0 : tfield Tryd.prog 54 0 = some (0, 1, false) := by kernel_rfl
@[simp] theorem tf54_1 : tfield Tryd.prog 54 1 = some (1, 1, false) := by kernel_rfl
@[simp] theorem tf54_2 : tfield Tryd.prog 54 2 = some (2, 2, true) := by kernel_rfl
@[simp] theorem tf54_3 : tfield Tryd.prog 54 3 = some (4, 1, false) := by kernel_rfl
@[simp] theorem tf54_4 : tfield Tryd.prog 54 4 = some (5, 1, false) := by kernel_rfl
@[simp] theorem tp54 : tplaces Tryd.prog 54 = some [(0, 1), (1, 1), (2, 2), (4, 1), (5, 1)] := by kernel_rfl
@[simp] theorem tz54 : tzero Tryd.prog 54 = some (.agg [.p (.int .i64 0), .p (.int .i64 0), .p (.int .i64 0), .p (.int .i64 0), .p (.string ⟨#[]⟩), .p (.int .i64 0)]) := by kernel_rfl
@[simp] theorem ts55 : tsize Tryd.prog 55 = some (6, true) := by kernel_rfl
@[simp] theorem tk55 : tkind Tryd.prog 55 = 0 := by kernel_rfl
@[simp] theorem ti55 : isIface Tryd.prog 55 = false := by kernel_rfl
@[simp] theorem tq55 : teqok Tryd.prog 55 = true := by kernel_rfl
@[simp] theorem tg55 : tflds Tryd.prog 55 = some [(51, 0), (3, 1), (53, 2), (9, 4), (3, 5)] := by kernel_rfl
@[simp] theorem tstn55 : isString Tryd.prog 55 = false := by kernel_rfl
@[simp] theorem tbyn55 : isBytes Tryd.prog 55 = false := by kernel_rfl
@[simp] theorem tf55_0 : tfield Tryd.prog 55 0 = some (0, 1, false) := by kernel_rfl
@[simp] theorem tf55_1 : tfield Tryd.prog 55 1 = some (1, 1, false) := by kernel_rfl
@[simp] theorem tf55_2 : tfield Tryd.prog 55 2 = some (2, 2, true) := by kernel_rfl
@[simp] theorem tf55_3 : tfield Tryd.prog 55 3 = some (4, 1, false) := by kernel_rfl
@[simp] theorem tf55_4 : tfield Tryd.prog 55 4 = some (5, 1, false) := by kernel_rfl
@[simp] theorem tp55 : tplaces Tryd.prog 55 = some [(0, 1), (1, 1), (2, 2), (4, 1), (5, 1)] := by kernel_rfl
@[simp] theorem tz55 : tzero Tryd.prog 55 = some (.agg [.p (.int .i64 0), .p (.int .i64 0), .p (.int .i64 0), .p (.int .i64 0), .p (.string ⟨#[]⟩), .p (.int .i64 0)]) := by kernel_rfl
@[simp] theorem ts63 : tsize Tryd.prog 63 = some (1, false) := by kernel_rfl
@[simp] theorem tk63 : tkind Tryd.prog 63 = 5 := by kernel_rfl
@[simp] theorem ti63 : isIface Tryd.prog 63 = false := by kernel_rfl
@[simp] theorem tstn63 : isString Tryd.prog 63 = false := by kernel_rfl
@[simp] theorem tbyn63 : isBytes Tryd.prog 63 = false := by kernel_rfl
@[simp] theorem tmap63 : isMapT Tryd.prog 63 = true := by kernel_rfl
@[simp] theorem tz63 : tzero Tryd.prog 63 = some (.p (.map none)) := by kernel_rfl
@[simp] theorem ts74 : tsize Tryd.prog 74 = some (6, true) := by kernel_rfl
@[simp] theorem tk74 : tkind Tryd.prog 74 = 0 := by kernel_rfl
@[simp] theorem ti74 : isIface Tryd.prog 74 = false := by kernel_rfl
@[simp] theorem tq74 : teqok Tryd.prog 74 = true := by kernel_rfl
@[simp] theorem tg74 : tflds Tryd.prog 74 = some [(3, 0), (3, 1), (53, 2), (9, 4), (3, 5)] := by kernel_rfl
@[simp] theorem tstn74 : isString Tryd.prog 74 = false := by kernel_rfl
@[simp] theorem tbyn74 : isBytes Tryd.prog 74 = false := by kernel_rfl
@[simp] theorem tf74_0 : tfield Tryd.prog 74 0 = some (0, 1, false) := by kernel_rfl
@[simp] theorem tf74_1 : tfield Tryd.prog 74 1 = some (1, 1, false) := by kernel_rfl
@[simp] theorem tf74_2 : tfield Tryd.prog 74 2 = some (2, 2, true) := by kernel_rfl
@[simp] theorem tf74_3 : tfield Tryd.prog 74 3 = some (4, 1, false) := by kernel_rfl
@[simp] theorem tf74_4 : tfield Tryd.prog 74 4 = some (5, 1, false) := by kernel_rfl
@[simp] theorem tp74 : tplaces Tryd.prog 74 = some [(0, 1), (1, 1), (2, 2), (4, 1), (5, 1)] := by kernel_rfl
@[simp] theorem tz74 : tzero Tryd.prog 74 = some (.agg [.p (.int .i64 0), .p (.int .i64 0), .p (.int .i64 0), .p (.int .i64 0), .p (.string ⟨#[]⟩), .p (.int .i64 0)]) := by kernel_rfl
@[simp] theorem ts75 : tsize Tryd.prog 75 = some (6, true) := by kernel_rfl
@[simp] theorem tk75 : tkind Tryd.prog 75 = 0 := by kernel_rfl
@[simp] theorem ti75 : isIface Tryd.prog 75 = false := by kernel_rfl
@[simp] theorem tq75 : teqok Tryd.prog 75 = true := by kernel_rfl
@[simp] theorem tg75 : tflds Tryd.prog 75 = some [(3, 0), (3, 1), (53, 2), (9, 4), (3, 5)] := by kernel_rfl
@[simp] theorem tstn75 : isString Tryd.prog 75 = false := by kernel_rfl
@[simp] theorem tbyn75 : isBytes Tryd.prog 75 = false := by kernel_rfl
@[simp] theorem tf75_0 : tfield Tryd.prog 75 0 = some (0, 1, false) := by kernel_rfl
@[simp] theorem tf75_1 : tfield Tryd.prog 75 1 = some (1, 1, false) := by kernel_rfl
@[simp] theorem tf75_2 : tfield Tryd.prog 75 2 = some (2, 2, true) := by kernel_rfl
@[simp] theorem tf75_3 : tfield Tryd.prog 75 3 = some (4, 1, false) := by kernel_rfl
@[simp] theorem tf75_4 : tfield Tryd.prog 75 4 = some (5, 1, false) := by kernel_rfl
@[simp] theorem tp75 : tplaces Tryd.prog 75 = some [(0, 1), (1, 1), (2, 2), (4, 1), (5, 1)] := by kernel_rfl
@[simp] theorem tz75 : tzero Tryd.prog 75 = some (.agg [.p (.int .i64 0), .p (.int .i64 0), .p (.int .i64 0), .p (.int .i64 0), .p (.string ⟨#[]⟩), .p (.int .i64 0)]) := by kernel_rfl
@[simp] theorem ts78 : tsize Tryd.prog 78 = some (1, false) := by kernel_rfl
@[simp] theorem tk78 : tkind Tryd.prog 78 = 3 := by kernel_rfl
@[simp] theorem ti78 : isIface Tryd.prog 78 = true := by kernel_rfl
@[simp] theorem tstn78 : isString Tryd.prog 78 = false := by kernel_rfl
@[simp] theorem tbyn78 : isBytes Tryd.prog 78 = false := by kernel_rfl
@[simp] theorem tz78 : tzero Tryd.prog 78 = some (.p (.nilIface)) := by kernel_rfl
@[simp] theorem ts79 : tsize Tryd.prog 79 = some (1, false) := by kernel_rfl
@[simp] theorem tk79 : tkind Tryd.prog 79 = 3 := by kernel_rfl
@[simp] theorem ti79 : isIface Tryd.prog 79 = true := by kernel_rfl
@[simp] theorem tstn79 : isString Tryd.prog 79 = false := by kernel_rfl
@[simp] theorem tbyn79 : isBytes Tryd.prog 79 = false := by kernel_rfl
@[simp] theorem tz79 : tzero Tryd.prog 79 = some (.p (.nilIface)) := by kernel_rfl
@[simp] theorem ts83 : tsize Tryd.prog 83 = some (1, false) := by kernel_rfl
@[simp] theorem tk83 : tkind Tryd.prog 83 = 0 := by kernel_rfl
@[simp] theorem ti83 : isIface Tryd.prog 83 = false := by kernel_rfl
@[simp] theorem tl83 : tleaf Tryd.prog 83 = 2 := by kernel_rfl
@[simp] theorem tu83 : Tryd.prog.underlying 83 = some (.int .u64) := by kernel_rfl
@[simp] theorem tstn83 : isString Tryd.prog 83 = false := by kernel_rfl
@[simp] theorem tbyn83 : isBytes Tryd.prog 83 = false := by kernel_rfl
@[simp] theorem tz83 : tzero Tryd.prog 83 = some (.p (.int .u64 0)) := by kernel_rfl
@[simp] theorem ts93 : tsize Tryd.prog 93 = some (256, true) := by kernel_rfl
@[simp] theorem tk93 : tkind Tryd.prog 93 = 0 := by kernel_rfl
@[simp] theorem ti93 : isIface Tryd.prog 93 = false := by kernel_rfl
@[simp] theorem tstn93 : isString Tryd.prog 93 = false := by kernel_rfl
@[simp] theorem tbyn93 : isBytes Tryd.prog 93 = false := by kernel_rfl
@[simp] theorem ta93 : tarr Tryd.prog 93 = some (256, 1, false) := by kernel_rfl
@[simp] theorem ts106 : tsize Tryd.prog 106 = some (1, false) := by kernel_rfl
@[simp] theorem tk106 : tkind Tryd.prog 106 = 4 := by kernel_rfl
@[simp] theorem ti106 : isIface Tryd.prog 106 = false := by kernel_rfl
@[simp] theorem tby106 : isBytes Tryd.prog 106 = false := by kernel_rfl
@[simp] theorem tstn106 : isString Tryd.prog 106 = false := by kernel_rfl
@[simp] theorem tsl106 : isSlice Tryd.prog 106 = true := by kernel_rfl
@[simp] theorem te106 : telem Tryd.prog 106 = some (1, false, 1) := by kernel_rfl
@[simp] theorem tet106 : telemT Tryd.prog 106 = some 4 := by kernel_rfl
@[simp] theorem tz106 : tzero Tryd.prog 106 = some (.p (.slice none 0 0)) := by kernel_rfl
@[simp] theorem ts109 : tsize Tryd.prog 109 = some (1, false) := by kernel_rfl
@[simp] theorem tk109 : tkind Tryd.prog 109 = 4 := by kernel_rfl
@[simp] theorem ti109 : isIface Tryd.prog 109 = false := by kernel_rfl
@[simp] theorem tby109 : isBytes Tryd.prog 109 = true := by kernel_rfl
@[simp] theorem tstn109 : isString Tryd.prog 109 = false := by kernel_rfl
@[simp] theorem tsl109 : isSlice Tryd.prog 109 = true := by kernel_rfl
@[simp] theorem te109 : telem Tryd.prog 109 = some (1, false, 1) := by kernel_rfl
@[simp] theorem tet109 : telemT Tryd.prog 109 = some 5 := by kernel_rfl
@[simp] theorem tz109 : tzero Tryd.prog 109 = some (.p (.slice none 0 0)) := by kernel_rfl
@[simp] theorem ts117 : tsize Tryd.prog 117 = some (1, false) := by kernel_rfl
@[simp] theorem tk117 : tkind Tryd.prog 117 = 0 := by kernel_rfl
@[simp] theorem ti117 : isIface Tryd.prog 117 = false := by kernel_rfl
@[simp] theorem tl117 : tleaf Tryd.prog 117 = 2 := by kernel_rfl
@[simp] theorem tu117 : Tryd.prog.underlying 117 = some (.int .i64) := by kernel_rfl
@[simp] theorem tstn117 : isString Tryd.prog 117 = false := by kernel_rfl
@[simp] theorem tbyn117 : isBytes Tryd.prog 117 = false := by kernel_rfl
@[simp] theorem tz117 : tzero Tryd.prog 117 = some (.p (.int .i64 0)) := by kernel_rfl
@[simp] theorem ts120 : tsize Tryd.prog 120 = some (1, false) := by kernel_rfl
@[simp] theorem tk120 : tkind Tryd.prog 120 = 2 := by kernel_rfl
@[simp] theorem ti120 : isIface Tryd.prog 120 = false := by kernel_rfl
@[simp] theorem tstn120 : isString Tryd.prog 120 = false := by kernel_rfl
@[simp] theorem tbyn120 : isBytes Tryd.prog 120 = false := by kernel_rfl
@[simp] theorem tz120 : tzero Tryd.prog 120 = some (.p (.pointer none)) := by kernel_rfl
@[simp] theorem ts128 : tsize Tryd.prog 128 = some (1, false) := by kernel_rfl
@[simp] theorem tk128 : tkind Tryd.prog 128 = 0 := by kernel_rfl
@[simp] theorem ti128 : isIface Tryd.prog 128 = false := by kernel_rfl
@[simp] theorem tl128 : tleaf Tryd.prog 128 = 2 := by kernel_rfl
@[simp] theorem tu128 : Tryd.prog.underlying 128 = some (.int .u64) := by kernel_rfl
@[simp] theorem tstn128 : isString Tryd.prog 128 = false := by kernel_rfl
@[simp] theorem tbyn128 : isBytes Tryd.prog 128 = false := by kernel_rfl
@[simp] theorem tz128 : tzero Tryd.prog 128 = some (.p (.int .u64 0)) := by kernel_rfl
@[simp] theorem ts130 : tsize Tryd.prog 130 = some (3, true) := by kernel_rfl
@[simp] theorem tk130 : tkind Tryd.prog 130 = 0 := by kernel_rfl
@[simp] theorem ti130 : isIface Tryd.prog 130 = false := by kernel_rfl
@[simp] theorem tstn130 : isString Tryd.prog 130 = false := by kernel_rfl
@[simp] theorem tbyn130 : isBytes Tryd.prog 130 = false := by kernel_rfl
@[simp] theorem tf130_0 : tfield Tryd.prog 130 0 = some (0, 1, false) := by kernel_rfl
@[simp] theorem tf130_1 : tfield Tryd.prog 130 1 = some (1, 1, false) := by kernel_rfl
@[simp] theorem tf130_2 : tfield Tryd.prog 130 2 = some (2, 1, false) := by kernel_rfl
@[simp] theorem tp130 : tplaces Tryd.prog 130 = some [(0, 1), (1, 1), (2, 1)] := by kernel_rfl
@[simp] theorem tz130 : tzero Tryd.prog 130 = some (.agg [.p (.string ⟨#[]⟩), .p (.string ⟨#[]⟩), .p (.nilIface)]) := by kernel_rfl
@[simp] theorem ts131 : tsize Tryd.prog 131 = some (3, true) := by kernel_rfl
@[simp] theorem tk131 : tkind Tryd.prog 131 = 0 := by kernel_rfl
@[simp] theorem ti131 : isIface Tryd.prog 131 = false := by kernel_rfl
@[simp] theorem tstn131 : isString Tryd.prog 131 = false := by kernel_rfl
@[simp] theorem tbyn131 : isBytes Tryd.prog 131 = false := by kernel_rfl
@[simp] theorem tf131_0 : tfield Tryd.prog 131 0 = some (0, 1, false) := by kernel_rfl
@[simp] theorem tf131_1 : tfield Tryd.prog 131 1 = some (1, 1, false) := by kernel_rfl
@[simp] theorem tf131_2 : tfield Tryd.prog 131 2 = some (2, 1, false) := by kernel_rfl
@[simp] theorem tp131 : tplaces Tryd.prog 131 = some [(0, 1), (1, 1), (2, 1)] := by kernel_rfl
@[simp] theorem tz131 : tzero Tryd.prog 131 = some (.agg [.p (.string ⟨#[]⟩), .p (.string ⟨#[]⟩), .p (.nilIface)]) := by kernel_rfl
@[simp] theorem ts133 : tsize Tryd.prog 133 = some (24, true) := by kernel_rfl
@[simp] theorem tk133 : tkind Tryd.prog 133 = 0 := by kernel_rfl
@[simp] theorem ti133 : isIface Tryd.prog 133 = false := by kernel_rfl
@[simp] theorem tstn133 : isString Tryd.prog 133 = false := by kernel_rfl
@[simp] theorem tbyn133 : isBytes Tryd.prog 133 = false := by kernel_rfl
@[simp] theorem ta133 : tarr Tryd.prog 133 = some (24, 1, false) := by kernel_rfl
@[simp] theorem tz133 : tzero Tryd.prog 133 = some (.agg [.p (.int .u8 0), .p (.int .u8 0), .p (.int .u8 0), .p (.int .u8 0), .p (.int .u8 0), .p (.int .u8 0), .p (.int .u8 0), .p (.int .u8 0), .p (.int .u8 0), .p (.int .u8 0), .p (.int .u8 0), .p (.int .u8 0), .p (.int .u8 0), .p (.int .u8 0), .p (.int .u8 0), .p (.int .u8 0), .p (.int .u8 0), .p (.int .u8 0), .p (.int .u8 0), .p (.int .u8 0), .p (.int .u8 0), .p (.int .u8 0), .p (.int .u8 0), .p (.int .u8 0)]) := by kernel_rfl
@[simp] theorem ts138 : tsize Tryd.prog 138 = some (256, true) := by kernel_rfl
@[simp] theorem tk138 : tkind Tryd.prog 138 = 0 := by kernel_rfl
@[simp] theorem ti138 : isIface Tryd.prog 138 = false := by kernel_rfl
@[simp] theorem tstn138 : isString Tryd.prog 138 = false := by kernel_rfl
@[simp] theorem tbyn138 : isBytes Tryd.prog 138 = false := by kernel_rfl
@[simp] theorem ta138 : tarr Tryd.prog 138 = some (256, 1, false) := by kernel_rfl
@[simp] theorem ts139 : tsize Tryd.prog 139 = some (2, true) := by kernel_rfl
@[simp] theorem tk139 : tkind Tryd.prog 139 = 0 := by kernel_rfl
@[simp] theorem ti139 : isIface Tryd.prog 139 = false := by kernel_rfl
@[simp] theorem tstn139 : isString Tryd.prog 139 = false := by kernel_rfl
@[simp] theorem tbyn139 : isBytes Tryd.prog 139 = false := by kernel_rfl
@[simp] theorem tf139_0 : tfield Tryd.prog 139 0 = some (0, 1, false) := by kernel_rfl
@[simp] theorem tf139_1 : tfield Tryd.prog 139 1 = some (1, 1, false) := by kernel_rfl
@[simp] theorem tp139 : tplaces Tryd.prog 139 = some [(0, 1), (1, 1)] := by kernel_rfl
@[simp] theorem tz139 : tzero Tryd.prog 139 = some (.agg [.p (.int .u8 0), .p (.int .u8 0)]) := by kernel_rfl
@[simp] theorem ts146 : tsize Tryd.prog 146 = some (1, false) := by kernel_rfl
@[simp] theorem tk146 : tkind Tryd.prog 146 = 2 := by kernel_rfl
@[simp] theorem ti146 : isIface Tryd.prog 146 = false := by kernel_rfl
@[simp] theorem tstn146 : isString Tryd.prog 146 = false := by kernel_rfl
@[simp] theorem tbyn146 : isBytes Tryd.prog 146 = false := by kernel_rfl
@[simp] theorem tz146 : tzero Tryd.prog 146 = some (.p (.pointer none)) := by kernel_rfl
@[simp] theorem ts148 : tsize Tryd.prog 148 = some (1, true) := by kernel_rfl
@[simp] theorem tk148 : tkind Tryd.prog 148 = 0 := by kernel_rfl
@[simp] theorem ti148 : isIface Tryd.prog 148 = false := by kernel_rfl
@[simp] theorem tstn148 : isString Tryd.prog 148 = false := by kernel_rfl
@[simp] theorem tbyn148 : isBytes Tryd.prog 148 = false := by kernel_rfl
@[simp] theorem tf148_0 : tfield Tryd.prog 148 0 = some (0, 1, false) := by kernel_rfl
@[simp] theorem tp148 : tplaces Tryd.prog 148 = some [(0, 1)] := by kernel_rfl
@[simp] theorem tz148 : tzero Tryd.prog 148 = some (.agg [.p (.string ⟨#[]⟩)]) := by kernel_rfl
@[simp] theorem ts151 : tsize Tryd.prog 151 = some (20, true) := by kernel_rfl
@[simp] theorem tk151 : tkind Tryd.prog 151 = 0 := by kernel_rfl
@[simp] theorem ti151 : isIface Tryd.prog 151 = false := by kernel_rfl
@[simp] theorem tstn151 : isString Tryd.prog 151 = false := by kernel_rfl
@[simp] theorem tbyn151 : isBytes Tryd.prog 151 = false := by kernel_rfl
@[simp] theorem ta151 : tarr Tryd.prog 151 = some (20, 1, false) := by kernel_rfl
@[simp] theorem tz151 : tzero Tryd.prog 151 = some (.agg [.p (.int .u64 0), .p (.int .u64 0), .p (.int .u64 0), .p (.int .u64 0), .p (.int .u64 0), .p (.int .u64 0), .p (.int .u64 0), .p (.int .u64 0), .p (.int .u64 0), .p (.int .u64 0), .p (.int .u64 0), .p (.int .u64 0), .p (.int .u64 0), .p (.int .u64 0), .p (.int .u64 0), .p (.int .u64 0), .p (.int .u64 0), .p (.int .u64 0), .p (.int .u64 0), .p (.int .u64 0)]) := by kernel_rfl
@[simp] theorem ts152 : tsize Tryd.prog 152 = some (1, false) := by kernel_rfl
@[simp] theorem tk152 : tkind Tryd.prog 152 = 0 := by kernel_rfl
@[simp] theorem ti152 : isIface Tryd.prog 152 = false := by kernel_rfl
@[simp] theorem tl152 : tleaf Tryd.prog 152 = 2 := by kernel_rfl
@[simp] theorem tu152 : Tryd.prog.underlying 152 = some (.int .u32) := by kernel_rfl
@[simp] theorem tstn152 : isString Tryd.prog 152 = false := by kernel_rfl
@[simp] theorem tbyn152 : isBytes Tryd.prog 152 = false := by kernel_rfl
@[simp] theorem tz152 : tzero Tryd.prog 152 = some (.p (.int .u32 0)) := by kernel_rfl
@[simp] theorem ts153 : tsize Tryd.prog 153 = some (65, true) := by kernel_rfl
@[simp] theorem tk153 : tkind Tryd.prog 153 = 0 := by kernel_rfl
@[simp] theorem ti153 : isIface Tryd.prog 153 = false := by kernel_rfl
@[simp] theorem tstn153 : isString Tryd.prog 153 = false := by kernel_rfl
@[simp] theorem tbyn153 : isBytes Tryd.prog 153 = false := by kernel_rfl
@[simp] theorem ta153 : tarr Tryd.prog 153 = some (65, 1, false) := by kernel_rfl
@[simp] theorem ts157 : tsize Tryd.prog 157 = some (32, true) := by kernel_rfl
@[simp] theorem tk157 : tkind Tryd.prog 157 = 0 := by kernel_rfl
@[simp] theorem ti157 : isIface Tryd.prog 157 = false := by kernel_rfl
@[simp] theorem tstn157 : isString Tryd.prog 157 = false := by kernel_rfl
@[simp] theorem tbyn157 : isBytes Tryd.prog 157 = false := by kernel_rfl
@[simp] theorem ta157 : tarr Tryd.prog 157 = some (32, 1, false) := by kernel_rfl
@[simp] theorem tz157 : tzero Tryd.prog 157 = some (.agg [.p (.int .u8 0), .p (.int .u8 0), .p (.int .u8 0), .p (.int .u8 0), .p (.int .u8 0), .p (.int .u8 0), .p (.int .u8 0), .p (.int .u8 0), .p (.int .u8 0), .p (.int .u8 0), .p (.int .u8 0), .p (.int .u8 0), .p (.int .u8 0), .p (.int .u8 0), .p (.int .u8 0), .p (.int .u8 0), .p (.int .u8 0), .p (.int .u8 0), .p (.int .u8 0), .p (.int .u8 0), .p (.int .u8 0), .p (.int .u8 0), .p (.int .u8 0), .p (.int .u8 0), .p (.int .u8 0), .p (.int .u8 0), .p (.int .u8 0), .p (.int .u8 0), .p (.int .u8 0), .p (.int .u8 0), .p (.int .u8 0), .p (.int .u8 0)]) := by kernel_rfl
@[simp] theorem ts158 : tsize Tryd.prog 158 = some (64, true) := by kernel_rfl
@[simp] theorem tk158 : tkind Tryd.prog 158 = 0 := by kernel_rfl
@[simp] theorem ti158 : isIface Tryd.prog 158 = false := by kernel_rfl
@[simp] theorem tstn158 : isString Tryd.prog 158 = false := by kernel_rfl
@[simp] theorem tbyn158 : isBytes Tryd.prog 158 = false := by kernel_rfl
@[simp] theorem ta158 : tarr Tryd.prog 158 = some (64, 1, false) := by kernel_rfl
end Go.AL
