/- The types, as equations (written by types.py). -/
import Derived.Test.YtkkckfnkejijdaaDoorProg
import Derived.Test.YtkkckfnkejijdaaDoorM2
/- The types, as equations (written by types.py). -/
namespace Go.Almanac
open Go.RowKit Go.Proofs Go.Abs
set_option maxRecDepth 1000000

@[go_sem] theorem aggT_0 : aggT Tryd.prog 0 = some false := rfl
@[go_sem] theorem tsz_0 : tsz Tryd.prog 0 = some 1 := rfl
@[go_sem] theorem hasZero_0 : hasZero Tryd.prog 0 = some 1 := rfl
@[go_sem] theorem tby_0 : tby Tryd.prog 0 = some 0 := rfl
@[go_sem] theorem zro_0 : zeroC Tryd.prog 0 = some [Abs.AV.tup []] := rfl
@[go_sem] theorem aggT_1 : aggT Tryd.prog 1 = some false := rfl
@[go_sem] theorem tsz_1 : tsz Tryd.prog 1 = some 1 := rfl
@[go_sem] theorem hasZero_1 : hasZero Tryd.prog 1 = some 1 := rfl
@[go_sem] theorem tby_1 : tby Tryd.prog 1 = some 8 := rfl
@[go_sem] theorem zro_1 : zeroC Tryd.prog 1 = some [Abs.AV.nilf] := rfl
@[go_sem] theorem und_2 : Tryd.prog.underlying 2 = some (.int .i64) := rfl
@[go_sem] theorem aggT_2 : aggT Tryd.prog 2 = some false := rfl
@[go_sem] theorem tsz_2 : tsz Tryd.prog 2 = some 1 := rfl
@[go_sem] theorem hasZero_2 : hasZero Tryd.prog 2 = some 1 := rfl
@[go_sem] theorem tby_2 : tby Tryd.prog 2 = some 8 := rfl
@[go_sem] theorem zro_2 : zeroC Tryd.prog 2 = some [Abs.AV.int IntKind.i64 0] := rfl
@[go_sem] theorem und_3 : Tryd.prog.underlying 3 = some (.int .i64) := rfl
@[go_sem] theorem aggT_3 : aggT Tryd.prog 3 = some false := rfl
@[go_sem] theorem tsz_3 : tsz Tryd.prog 3 = some 1 := rfl
@[go_sem] theorem hasZero_3 : hasZero Tryd.prog 3 = some 1 := rfl
@[go_sem] theorem tby_3 : tby Tryd.prog 3 = some 8 := rfl
@[go_sem] theorem zro_3 : zeroC Tryd.prog 3 = some [Abs.AV.int IntKind.i64 0] := rfl
@[go_sem] theorem und_4 : Tryd.prog.underlying 4 = some (.bool) := rfl
@[go_sem] theorem aggT_4 : aggT Tryd.prog 4 = some false := rfl
@[go_sem] theorem tsz_4 : tsz Tryd.prog 4 = some 1 := rfl
@[go_sem] theorem hasZero_4 : hasZero Tryd.prog 4 = some 1 := rfl
@[go_sem] theorem tby_4 : tby Tryd.prog 4 = some 1 := rfl
@[go_sem] theorem zro_4 : zeroC Tryd.prog 4 = some [Abs.AV.bool false] := rfl
@[go_sem] theorem und_5 : Tryd.prog.underlying 5 = some (.int .u8) := rfl
@[go_sem] theorem aggT_5 : aggT Tryd.prog 5 = some false := rfl
@[go_sem] theorem tsz_5 : tsz Tryd.prog 5 = some 1 := rfl
@[go_sem] theorem hasZero_5 : hasZero Tryd.prog 5 = some 1 := rfl
@[go_sem] theorem tby_5 : tby Tryd.prog 5 = some 1 := rfl
@[go_sem] theorem zro_5 : zeroC Tryd.prog 5 = some [Abs.AV.int IntKind.u8 0] := rfl
@[go_sem] theorem und_6 : Tryd.prog.underlying 6 = some (.int .u8) := rfl
@[go_sem] theorem aggT_6 : aggT Tryd.prog 6 = some false := rfl
@[go_sem] theorem tsz_6 : tsz Tryd.prog 6 = some 1 := rfl
@[go_sem] theorem hasZero_6 : hasZero Tryd.prog 6 = some 1 := rfl
@[go_sem] theorem tby_6 : tby Tryd.prog 6 = some 1 := rfl
@[go_sem] theorem zro_6 : zeroC Tryd.prog 6 = some [Abs.AV.int IntKind.u8 0] := rfl
@[go_sem] theorem aggT_7 : aggT Tryd.prog 7 = some true := rfl
@[go_sem] theorem tsz_7 : tsz Tryd.prog 7 = some 4 := rfl
@[go_sem] theorem hasZero_7 : hasZero Tryd.prog 7 = some 4 := rfl
@[go_sem] theorem tby_7 : tby Tryd.prog 7 = some 24 := rfl
@[go_sem] theorem szs_7 : szsOf Tryd.prog 7 = true := rfl
@[go_sem] theorem zro_7 : zeroC Tryd.prog 7 = some [Abs.AV.int IntKind.i64 0, Abs.AV.int IntKind.i64 0, Abs.AV.bool false, Abs.AV.int IntKind.u8 0] := rfl
@[go_sem] theorem aggT_8 : aggT Tryd.prog 8 = some true := rfl
@[go_sem] theorem tsz_8 : tsz Tryd.prog 8 = some 4 := rfl
@[go_sem] theorem hasZero_8 : hasZero Tryd.prog 8 = some 4 := rfl
@[go_sem] theorem tby_8 : tby Tryd.prog 8 = some 24 := rfl
@[go_sem] theorem szs_8 : szsOf Tryd.prog 8 = true := rfl
@[go_sem] theorem zro_8 : zeroC Tryd.prog 8 = some [Abs.AV.int IntKind.i64 0, Abs.AV.int IntKind.i64 0, Abs.AV.bool false, Abs.AV.int IntKind.u8 0] := rfl
@[go_sem] theorem und_9 : Tryd.prog.underlying 9 = some (.string) := rfl
@[go_sem] theorem aggT_9 : aggT Tryd.prog 9 = some false := rfl
@[go_sem] theorem tsz_9 : tsz Tryd.prog 9 = some 1 := rfl
@[go_sem] theorem hasZero_9 : hasZero Tryd.prog 9 = some 1 := rfl
@[go_sem] theorem tby_9 : tby Tryd.prog 9 = some 16 := rfl
@[go_sem] theorem zro_9 : zeroC Tryd.prog 9 = some [Abs.AV.str []] := rfl
@[go_sem] theorem und_10 : Tryd.prog.underlying 10 = some (.string) := rfl
@[go_sem] theorem aggT_10 : aggT Tryd.prog 10 = some false := rfl
@[go_sem] theorem tsz_10 : tsz Tryd.prog 10 = some 1 := rfl
@[go_sem] theorem hasZero_10 : hasZero Tryd.prog 10 = some 1 := rfl
@[go_sem] theorem tby_10 : tby Tryd.prog 10 = some 16 := rfl
@[go_sem] theorem zro_10 : zeroC Tryd.prog 10 = some [Abs.AV.str []] := rfl
@[go_sem] theorem und_11 : Tryd.prog.underlying 11 = some (.string) := rfl
@[go_sem] theorem aggT_11 : aggT Tryd.prog 11 = some false := rfl
@[go_sem] theorem tsz_11 : tsz Tryd.prog 11 = some 1 := rfl
@[go_sem] theorem hasZero_11 : hasZero Tryd.prog 11 = some 1 := rfl
@[go_sem] theorem tby_11 : tby Tryd.prog 11 = some 16 := rfl
@[go_sem] theorem zro_11 : zeroC Tryd.prog 11 = some [Abs.AV.str []] := rfl
@[go_sem] theorem und_12 : Tryd.prog.underlying 12 = some (.int .u64) := rfl
@[go_sem] theorem aggT_12 : aggT Tryd.prog 12 = some false := rfl
@[go_sem] theorem tsz_12 : tsz Tryd.prog 12 = some 1 := rfl
@[go_sem] theorem hasZero_12 : hasZero Tryd.prog 12 = some 1 := rfl
@[go_sem] theorem tby_12 : tby Tryd.prog 12 = some 8 := rfl
@[go_sem] theorem zro_12 : zeroC Tryd.prog 12 = some [Abs.AV.int IntKind.u64 0] := rfl
@[go_sem] theorem aggT_13 : aggT Tryd.prog 13 = some true := rfl
@[go_sem] theorem tsz_13 : tsz Tryd.prog 13 = some 2 := rfl
@[go_sem] theorem hasZero_13 : hasZero Tryd.prog 13 = some 2 := rfl
@[go_sem] theorem tby_13 : tby Tryd.prog 13 = some 24 := rfl
@[go_sem] theorem szs_13 : szsOf Tryd.prog 13 = true := rfl
@[go_sem] theorem zro_13 : zeroC Tryd.prog 13 = some [Abs.AV.str [], Abs.AV.int IntKind.u64 0] := rfl
@[go_sem] theorem aggT_14 : aggT Tryd.prog 14 = some true := rfl
@[go_sem] theorem tsz_14 : tsz Tryd.prog 14 = some 2 := rfl
@[go_sem] theorem hasZero_14 : hasZero Tryd.prog 14 = some 2 := rfl
@[go_sem] theorem tby_14 : tby Tryd.prog 14 = some 24 := rfl
@[go_sem] theorem szs_14 : szsOf Tryd.prog 14 = true := rfl
@[go_sem] theorem zro_14 : zeroC Tryd.prog 14 = some [Abs.AV.str [], Abs.AV.int IntKind.u64 0] := rfl
@[go_sem] theorem und_15 : Tryd.prog.underlying 15 = some (.pointer 112) := rfl
@[go_sem] theorem aggT_15 : aggT Tryd.prog 15 = some false := rfl
@[go_sem] theorem tsz_15 : tsz Tryd.prog 15 = some 1 := rfl
@[go_sem] theorem hasZero_15 : hasZero Tryd.prog 15 = some 1 := rfl
@[go_sem] theorem tby_15 : tby Tryd.prog 15 = some 8 := rfl
@[go_sem] theorem zro_15 : zeroC Tryd.prog 15 = some [Abs.AV.nilp] := rfl
@[go_sem] theorem und_16 : Tryd.prog.underlying 16 = some (.pointer 115) := rfl
@[go_sem] theorem aggT_16 : aggT Tryd.prog 16 = some false := rfl
@[go_sem] theorem tsz_16 : tsz Tryd.prog 16 = some 1 := rfl
@[go_sem] theorem hasZero_16 : hasZero Tryd.prog 16 = some 1 := rfl
@[go_sem] theorem tby_16 : tby Tryd.prog 16 = some 8 := rfl
@[go_sem] theorem zro_16 : zeroC Tryd.prog 16 = some [Abs.AV.nilp] := rfl
@[go_sem] theorem und_17 : Tryd.prog.underlying 17 = some (.pointer 123) := rfl
@[go_sem] theorem aggT_17 : aggT Tryd.prog 17 = some false := rfl
@[go_sem] theorem tsz_17 : tsz Tryd.prog 17 = some 1 := rfl
@[go_sem] theorem hasZero_17 : hasZero Tryd.prog 17 = some 1 := rfl
@[go_sem] theorem tby_17 : tby Tryd.prog 17 = some 8 := rfl
@[go_sem] theorem zro_17 : zeroC Tryd.prog 17 = some [Abs.AV.nilp] := rfl
@[go_sem] theorem aggT_18 : aggT Tryd.prog 18 = some true := rfl
@[go_sem] theorem tsz_18 : tsz Tryd.prog 18 = some 1 := rfl
@[go_sem] theorem hasZero_18 : hasZero Tryd.prog 18 = some 1 := rfl
@[go_sem] theorem tby_18 : tby Tryd.prog 18 = some 8 := rfl
@[go_sem] theorem szs_18 : szsOf Tryd.prog 18 = true := rfl
@[go_sem] theorem zro_18 : zeroC Tryd.prog 18 = some [Abs.AV.nilp] := rfl
@[go_sem] theorem aggT_19 : aggT Tryd.prog 19 = some true := rfl
@[go_sem] theorem tsz_19 : tsz Tryd.prog 19 = some 1 := rfl
@[go_sem] theorem hasZero_19 : hasZero Tryd.prog 19 = some 1 := rfl
@[go_sem] theorem tby_19 : tby Tryd.prog 19 = some 8 := rfl
@[go_sem] theorem szs_19 : szsOf Tryd.prog 19 = true := rfl
@[go_sem] theorem zro_19 : zeroC Tryd.prog 19 = some [Abs.AV.nilp] := rfl
@[go_sem] theorem aggT_20 : aggT Tryd.prog 20 = some false := rfl
@[go_sem] theorem tsz_20 : tsz Tryd.prog 20 = some 1 := rfl
@[go_sem] theorem hasZero_20 : hasZero Tryd.prog 20 = some 1 := rfl
@[go_sem] theorem tby_20 : tby Tryd.prog 20 = some 16 := rfl
@[go_sem] theorem zro_20 : zeroC Tryd.prog 20 = some [Abs.AV.nili] := rfl
@[go_sem] theorem und_21 : Tryd.prog.underlying 21 = some (.int .i32) := rfl
@[go_sem] theorem aggT_21 : aggT Tryd.prog 21 = some false := rfl
@[go_sem] theorem tsz_21 : tsz Tryd.prog 21 = some 1 := rfl
@[go_sem] theorem hasZero_21 : hasZero Tryd.prog 21 = some 1 := rfl
@[go_sem] theorem tby_21 : tby Tryd.prog 21 = some 4 := rfl
@[go_sem] theorem zro_21 : zeroC Tryd.prog 21 = some [Abs.AV.int IntKind.i32 0] := rfl
@[go_sem] theorem und_22 : Tryd.prog.underlying 22 = some (.slice 51) := rfl
@[go_sem] theorem aggT_22 : aggT Tryd.prog 22 = some false := rfl
@[go_sem] theorem tsz_22 : tsz Tryd.prog 22 = some 1 := rfl
@[go_sem] theorem hasZero_22 : hasZero Tryd.prog 22 = some 1 := rfl
@[go_sem] theorem tby_22 : tby Tryd.prog 22 = some 24 := rfl
@[go_sem] theorem zro_22 : zeroC Tryd.prog 22 = some [Abs.AV.nils] := rfl
@[go_sem] theorem aggT_23 : aggT Tryd.prog 23 = some true := rfl
@[go_sem] theorem tsz_23 : tsz Tryd.prog 23 = some 3 := rfl
@[go_sem] theorem hasZero_23 : hasZero Tryd.prog 23 = some 3 := rfl
@[go_sem] theorem tby_23 : tby Tryd.prog 23 = some 56 := rfl
@[go_sem] theorem szs_23 : szsOf Tryd.prog 23 = true := rfl
@[go_sem] theorem zro_23 : zeroC Tryd.prog 23 = some [Abs.AV.str [], Abs.AV.nils, Abs.AV.str []] := rfl
@[go_sem] theorem aggT_24 : aggT Tryd.prog 24 = some true := rfl
@[go_sem] theorem tsz_24 : tsz Tryd.prog 24 = some 3 := rfl
@[go_sem] theorem hasZero_24 : hasZero Tryd.prog 24 = some 3 := rfl
@[go_sem] theorem tby_24 : tby Tryd.prog 24 = some 56 := rfl
@[go_sem] theorem szs_24 : szsOf Tryd.prog 24 = true := rfl
@[go_sem] theorem zro_24 : zeroC Tryd.prog 24 = some [Abs.AV.str [], Abs.AV.nils, Abs.AV.str []] := rfl
@[go_sem] theorem und_25 : Tryd.prog.underlying 25 = some (.int .i64) := rfl
@[go_sem] theorem aggT_25 : aggT Tryd.prog 25 = some false := rfl
@[go_sem] theorem tsz_25 : tsz Tryd.prog 25 = some 1 := rfl
@[go_sem] theorem hasZero_25 : hasZero Tryd.prog 25 = some 1 := rfl
@[go_sem] theorem tby_25 : tby Tryd.prog 25 = some 8 := rfl
@[go_sem] theorem zro_25 : zeroC Tryd.prog 25 = some [Abs.AV.int IntKind.i64 0] := rfl
@[go_sem] theorem aggT_26 : aggT Tryd.prog 26 = some false := rfl
@[go_sem] theorem tsz_26 : tsz Tryd.prog 26 = some 1 := rfl
@[go_sem] theorem hasZero_26 : hasZero Tryd.prog 26 = some 1 := rfl
@[go_sem] theorem tby_26 : tby Tryd.prog 26 = some 0 := rfl
@[go_sem] theorem zro_26 : zeroC Tryd.prog 26 = some [Abs.AV.junk] := rfl
@[go_sem] theorem aggT_27 : aggT Tryd.prog 27 = some false := rfl
@[go_sem] theorem tsz_27 : tsz Tryd.prog 27 = some 1 := rfl
@[go_sem] theorem hasZero_27 : hasZero Tryd.prog 27 = some 1 := rfl
@[go_sem] theorem tby_27 : tby Tryd.prog 27 = some 8 := rfl
@[go_sem] theorem zro_27 : zeroC Tryd.prog 27 = some [Abs.AV.nilf] := rfl
@[go_sem] theorem aggT_28 : aggT Tryd.prog 28 = some false := rfl
@[go_sem] theorem tsz_28 : tsz Tryd.prog 28 = some 1 := rfl
@[go_sem] theorem hasZero_28 : hasZero Tryd.prog 28 = some 1 := rfl
@[go_sem] theorem tby_28 : tby Tryd.prog 28 = some 0 := rfl
@[go_sem] theorem zro_28 : zeroC Tryd.prog 28 = some [Abs.AV.junk] := rfl
@[go_sem] theorem aggT_29 : aggT Tryd.prog 29 = some false := rfl
@[go_sem] theorem tsz_29 : tsz Tryd.prog 29 = some 1 := rfl
@[go_sem] theorem hasZero_29 : hasZero Tryd.prog 29 = some 1 := rfl
@[go_sem] theorem tby_29 : tby Tryd.prog 29 = some 8 := rfl
@[go_sem] theorem zro_29 : zeroC Tryd.prog 29 = some [Abs.AV.nilf] := rfl
@[go_sem] theorem aggT_30 : aggT Tryd.prog 30 = some false := rfl
@[go_sem] theorem tsz_30 : tsz Tryd.prog 30 = some 1 := rfl
@[go_sem] theorem hasZero_30 : hasZero Tryd.prog 30 = some 1 := rfl
@[go_sem] theorem tby_30 : tby Tryd.prog 30 = some 8 := rfl
@[go_sem] theorem zro_30 : zeroC Tryd.prog 30 = some [Abs.AV.nilf] := rfl
@[go_sem] theorem aggT_31 : aggT Tryd.prog 31 = some false := rfl
@[go_sem] theorem tsz_31 : tsz Tryd.prog 31 = some 1 := rfl
@[go_sem] theorem hasZero_31 : hasZero Tryd.prog 31 = some 1 := rfl
@[go_sem] theorem tby_31 : tby Tryd.prog 31 = some 8 := rfl
@[go_sem] theorem zro_31 : zeroC Tryd.prog 31 = some [Abs.AV.nilf] := rfl
@[go_sem] theorem aggT_32 : aggT Tryd.prog 32 = some false := rfl
@[go_sem] theorem tsz_32 : tsz Tryd.prog 32 = some 1 := rfl
@[go_sem] theorem hasZero_32 : hasZero Tryd.prog 32 = some 1 := rfl
@[go_sem] theorem tby_32 : tby Tryd.prog 32 = some 8 := rfl
@[go_sem] theorem zro_32 : zeroC Tryd.prog 32 = some [Abs.AV.nilf] := rfl
@[go_sem] theorem aggT_33 : aggT Tryd.prog 33 = some false := rfl
@[go_sem] theorem tsz_33 : tsz Tryd.prog 33 = some 1 := rfl
@[go_sem] theorem hasZero_33 : hasZero Tryd.prog 33 = some 1 := rfl
@[go_sem] theorem tby_33 : tby Tryd.prog 33 = some 0 := rfl
@[go_sem] theorem zro_33 : zeroC Tryd.prog 33 = some [Abs.AV.junk] := rfl
@[go_sem] theorem aggT_34 : aggT Tryd.prog 34 = some false := rfl
@[go_sem] theorem tsz_34 : tsz Tryd.prog 34 = some 1 := rfl
@[go_sem] theorem hasZero_34 : hasZero Tryd.prog 34 = some 1 := rfl
@[go_sem] theorem tby_34 : tby Tryd.prog 34 = some 8 := rfl
@[go_sem] theorem zro_34 : zeroC Tryd.prog 34 = some [Abs.AV.nilf] := rfl
@[go_sem] theorem aggT_35 : aggT Tryd.prog 35 = some false := rfl
@[go_sem] theorem tsz_35 : tsz Tryd.prog 35 = some 1 := rfl
@[go_sem] theorem hasZero_35 : hasZero Tryd.prog 35 = some 1 := rfl
@[go_sem] theorem tby_35 : tby Tryd.prog 35 = some 8 := rfl
@[go_sem] theorem zro_35 : zeroC Tryd.prog 35 = some [Abs.AV.nilf] := rfl
@[go_sem] theorem aggT_36 : aggT Tryd.prog 36 = some false := rfl
@[go_sem] theorem tsz_36 : tsz Tryd.prog 36 = some 1 := rfl
@[go_sem] theorem hasZero_36 : hasZero Tryd.prog 36 = some 1 := rfl
@[go_sem] theorem tby_36 : tby Tryd.prog 36 = some 8 := rfl
@[go_sem] theorem zro_36 : zeroC Tryd.prog 36 = some [Abs.AV.nilf] := rfl
@[go_sem] theorem aggT_37 : aggT Tryd.prog 37 = some false := rfl
@[go_sem] theorem tsz_37 : tsz Tryd.prog 37 = some 1 := rfl
@[go_sem] theorem hasZero_37 : hasZero Tryd.prog 37 = some 1 := rfl
@[go_sem] theorem tby_37 : tby Tryd.prog 37 = some 8 := rfl
@[go_sem] theorem zro_37 : zeroC Tryd.prog 37 = some [Abs.AV.nilf] := rfl
@[go_sem] theorem und_38 : Tryd.prog.underlying 38 = some (.slice 9) := rfl
@[go_sem] theorem aggT_38 : aggT Tryd.prog 38 = some false := rfl
@[go_sem] theorem tsz_38 : tsz Tryd.prog 38 = some 1 := rfl
@[go_sem] theorem hasZero_38 : hasZero Tryd.prog 38 = some 1 := rfl
@[go_sem] theorem tby_38 : tby Tryd.prog 38 = some 24 := rfl
@[go_sem] theorem zro_38 : zeroC Tryd.prog 38 = some [Abs.AV.nils] := rfl
@[go_sem] theorem aggT_39 : aggT Tryd.prog 39 = some false := rfl
@[go_sem] theorem tsz_39 : tsz Tryd.prog 39 = some 1 := rfl
@[go_sem] theorem hasZero_39 : hasZero Tryd.prog 39 = some 1 := rfl
@[go_sem] theorem tby_39 : tby Tryd.prog 39 = some 8 := rfl
@[go_sem] theorem zro_39 : zeroC Tryd.prog 39 = some [Abs.AV.nilf] := rfl
@[go_sem] theorem aggT_40 : aggT Tryd.prog 40 = some false := rfl
@[go_sem] theorem tsz_40 : tsz Tryd.prog 40 = some 1 := rfl
@[go_sem] theorem hasZero_40 : hasZero Tryd.prog 40 = some 1 := rfl
@[go_sem] theorem tby_40 : tby Tryd.prog 40 = some 8 := rfl
@[go_sem] theorem zro_40 : zeroC Tryd.prog 40 = some [Abs.AV.nilf] := rfl
@[go_sem] theorem aggT_41 : aggT Tryd.prog 41 = some false := rfl
@[go_sem] theorem tsz_41 : tsz Tryd.prog 41 = some 1 := rfl
@[go_sem] theorem hasZero_41 : hasZero Tryd.prog 41 = some 1 := rfl
@[go_sem] theorem tby_41 : tby Tryd.prog 41 = some 0 := rfl
@[go_sem] theorem zro_41 : zeroC Tryd.prog 41 = some [Abs.AV.junk] := rfl
@[go_sem] theorem aggT_42 : aggT Tryd.prog 42 = some false := rfl
@[go_sem] theorem tsz_42 : tsz Tryd.prog 42 = some 1 := rfl
@[go_sem] theorem hasZero_42 : hasZero Tryd.prog 42 = some 1 := rfl
@[go_sem] theorem tby_42 : tby Tryd.prog 42 = some 8 := rfl
@[go_sem] theorem zro_42 : zeroC Tryd.prog 42 = some [Abs.AV.nilf] := rfl
@[go_sem] theorem aggT_43 : aggT Tryd.prog 43 = some false := rfl
@[go_sem] theorem tsz_43 : tsz Tryd.prog 43 = some 1 := rfl
@[go_sem] theorem hasZero_43 : hasZero Tryd.prog 43 = some 1 := rfl
@[go_sem] theorem tby_43 : tby Tryd.prog 43 = some 8 := rfl
@[go_sem] theorem zro_43 : zeroC Tryd.prog 43 = some [Abs.AV.nilf] := rfl
@[go_sem] theorem aggT_44 : aggT Tryd.prog 44 = some false := rfl
@[go_sem] theorem tsz_44 : tsz Tryd.prog 44 = some 1 := rfl
@[go_sem] theorem hasZero_44 : hasZero Tryd.prog 44 = some 1 := rfl
@[go_sem] theorem tby_44 : tby Tryd.prog 44 = some 8 := rfl
@[go_sem] theorem zro_44 : zeroC Tryd.prog 44 = some [Abs.AV.nilf] := rfl
@[go_sem] theorem und_45 : Tryd.prog.underlying 45 = some (.pointer 47) := rfl
@[go_sem] theorem aggT_45 : aggT Tryd.prog 45 = some false := rfl
@[go_sem] theorem tsz_45 : tsz Tryd.prog 45 = some 1 := rfl
@[go_sem] theorem hasZero_45 : hasZero Tryd.prog 45 = some 1 := rfl
@[go_sem] theorem tby_45 : tby Tryd.prog 45 = some 8 := rfl
@[go_sem] theorem zro_45 : zeroC Tryd.prog 45 = some [Abs.AV.nilp] := rfl
@[go_sem] theorem aggT_46 : aggT Tryd.prog 46 = some true := rfl
@[go_sem] theorem tsz_46 : tsz Tryd.prog 46 = some 2 := rfl
@[go_sem] theorem hasZero_46 : hasZero Tryd.prog 46 = some 2 := rfl
@[go_sem] theorem tby_46 : tby Tryd.prog 46 = some 24 := rfl
@[go_sem] theorem szs_46 : szsOf Tryd.prog 46 = true := rfl
@[go_sem] theorem zro_46 : zeroC Tryd.prog 46 = some [Abs.AV.str [], Abs.AV.int IntKind.i64 0] := rfl
@[go_sem] theorem aggT_47 : aggT Tryd.prog 47 = some true := rfl
@[go_sem] theorem tsz_47 : tsz Tryd.prog 47 = some 2 := rfl
@[go_sem] theorem hasZero_47 : hasZero Tryd.prog 47 = some 2 := rfl
@[go_sem] theorem tby_47 : tby Tryd.prog 47 = some 24 := rfl
@[go_sem] theorem szs_47 : szsOf Tryd.prog 47 = true := rfl
@[go_sem] theorem zro_47 : zeroC Tryd.prog 47 = some [Abs.AV.str [], Abs.AV.int IntKind.i64 0] := rfl
@[go_sem] theorem aggT_48 : aggT Tryd.prog 48 = some false := rfl
@[go_sem] theorem tsz_48 : tsz Tryd.prog 48 = some 1 := rfl
@[go_sem] theorem hasZero_48 : hasZero Tryd.prog 48 = some 1 := rfl
@[go_sem] theorem tby_48 : tby Tryd.prog 48 = some 8 := rfl
@[go_sem] theorem zro_48 : zeroC Tryd.prog 48 = some [Abs.AV.nilf] := rfl
@[go_sem] theorem aggT_49 : aggT Tryd.prog 49 = some false := rfl
@[go_sem] theorem tsz_49 : tsz Tryd.prog 49 = some 1 := rfl
@[go_sem] theorem hasZero_49 : hasZero Tryd.prog 49 = some 1 := rfl
@[go_sem] theorem tby_49 : tby Tryd.prog 49 = some 8 := rfl
@[go_sem] theorem zro_49 : zeroC Tryd.prog 49 = some [Abs.AV.nilf] := rfl
@[go_sem] theorem aggT_50 : aggT Tryd.prog 50 = some true := rfl
@[go_sem] theorem tsz_50 : tsz Tryd.prog 50 = some 2 := rfl
@[go_sem] theorem hasZero_50 : hasZero Tryd.prog 50 = some 2 := rfl
@[go_sem] theorem tby_50 : tby Tryd.prog 50 = some 40 := rfl
@[go_sem] theorem szs_50 : szsOf Tryd.prog 50 = true := rfl
@[go_sem] theorem zro_50 : zeroC Tryd.prog 50 = some [Abs.AV.str [], Abs.AV.nils] := rfl
@[go_sem] theorem aggT_51 : aggT Tryd.prog 51 = some true := rfl
@[go_sem] theorem tsz_51 : tsz Tryd.prog 51 = some 2 := rfl
@[go_sem] theorem hasZero_51 : hasZero Tryd.prog 51 = some 2 := rfl
@[go_sem] theorem tby_51 : tby Tryd.prog 51 = some 40 := rfl
@[go_sem] theorem szs_51 : szsOf Tryd.prog 51 = true := rfl
@[go_sem] theorem zro_51 : zeroC Tryd.prog 51 = some [Abs.AV.str [], Abs.AV.nils] := rfl
@[go_sem] theorem aggT_52 : aggT Tryd.prog 52 = some false := rfl
@[go_sem] theorem tsz_52 : tsz Tryd.prog 52 = some 1 := rfl
@[go_sem] theorem hasZero_52 : hasZero Tryd.prog 52 = some 1 := rfl
@[go_sem] theorem tby_52 : tby Tryd.prog 52 = some 8 := rfl
@[go_sem] theorem zro_52 : zeroC Tryd.prog 52 = some [Abs.AV.nilf] := rfl
@[go_sem] theorem aggT_53 : aggT Tryd.prog 53 = some false := rfl
@[go_sem] theorem tsz_53 : tsz Tryd.prog 53 = some 1 := rfl
@[go_sem] theorem hasZero_53 : hasZero Tryd.prog 53 = some 1 := rfl
@[go_sem] theorem tby_53 : tby Tryd.prog 53 = some 8 := rfl
@[go_sem] theorem zro_53 : zeroC Tryd.prog 53 = some [Abs.AV.nilf] := rfl
@[go_sem] theorem aggT_54 : aggT Tryd.prog 54 = some false := rfl
@[go_sem] theorem tsz_54 : tsz Tryd.prog 54 = some 1 := rfl
@[go_sem] theorem hasZero_54 : hasZero Tryd.prog 54 = some 1 := rfl
@[go_sem] theorem tby_54 : tby Tryd.prog 54 = some 8 := rfl
@[go_sem] theorem zro_54 : zeroC Tryd.prog 54 = some [Abs.AV.nilf] := rfl
@[go_sem] theorem und_55 : Tryd.prog.underlying 55 = some (.pointer 57) := rfl
@[go_sem] theorem aggT_55 : aggT Tryd.prog 55 = some false := rfl
@[go_sem] theorem tsz_55 : tsz Tryd.prog 55 = some 1 := rfl
@[go_sem] theorem hasZero_55 : hasZero Tryd.prog 55 = some 1 := rfl
@[go_sem] theorem tby_55 : tby Tryd.prog 55 = some 8 := rfl
@[go_sem] theorem zro_55 : zeroC Tryd.prog 55 = some [Abs.AV.nilp] := rfl
@[go_sem] theorem aggT_56 : aggT Tryd.prog 56 = some true := rfl
@[go_sem] theorem tsz_56 : tsz Tryd.prog 56 = some 3 := rfl
@[go_sem] theorem hasZero_56 : hasZero Tryd.prog 56 = some 3 := rfl
@[go_sem] theorem tby_56 : tby Tryd.prog 56 = some 32 := rfl
@[go_sem] theorem szs_56 : szsOf Tryd.prog 56 = true := rfl
@[go_sem] theorem zro_56 : zeroC Tryd.prog 56 = some [Abs.AV.str [], Abs.AV.int IntKind.i64 0, Abs.AV.int IntKind.i64 0] := rfl
@[go_sem] theorem aggT_57 : aggT Tryd.prog 57 = some true := rfl
@[go_sem] theorem tsz_57 : tsz Tryd.prog 57 = some 3 := rfl
@[go_sem] theorem hasZero_57 : hasZero Tryd.prog 57 = some 3 := rfl
@[go_sem] theorem tby_57 : tby Tryd.prog 57 = some 32 := rfl
@[go_sem] theorem szs_57 : szsOf Tryd.prog 57 = true := rfl
@[go_sem] theorem zro_57 : zeroC Tryd.prog 57 = some [Abs.AV.str [], Abs.AV.int IntKind.i64 0, Abs.AV.int IntKind.i64 0] := rfl
@[go_sem] theorem aggT_58 : aggT Tryd.prog 58 = some false := rfl
@[go_sem] theorem tsz_58 : tsz Tryd.prog 58 = some 1 := rfl
@[go_sem] theorem hasZero_58 : hasZero Tryd.prog 58 = some 1 := rfl
@[go_sem] theorem tby_58 : tby Tryd.prog 58 = some 8 := rfl
@[go_sem] theorem zro_58 : zeroC Tryd.prog 58 = some [Abs.AV.nilf] := rfl
@[go_sem] theorem aggT_59 : aggT Tryd.prog 59 = some false := rfl
@[go_sem] theorem tsz_59 : tsz Tryd.prog 59 = some 1 := rfl
@[go_sem] theorem hasZero_59 : hasZero Tryd.prog 59 = some 1 := rfl
@[go_sem] theorem tby_59 : tby Tryd.prog 59 = some 8 := rfl
@[go_sem] theorem zro_59 : zeroC Tryd.prog 59 = some [Abs.AV.nilf] := rfl
@[go_sem] theorem aggT_60 : aggT Tryd.prog 60 = some false := rfl
@[go_sem] theorem tsz_60 : tsz Tryd.prog 60 = some 1 := rfl
@[go_sem] theorem hasZero_60 : hasZero Tryd.prog 60 = some 1 := rfl
@[go_sem] theorem tby_60 : tby Tryd.prog 60 = some 8 := rfl
@[go_sem] theorem zro_60 : zeroC Tryd.prog 60 = some [Abs.AV.nilf] := rfl
@[go_sem] theorem aggT_61 : aggT Tryd.prog 61 = some false := rfl
@[go_sem] theorem tsz_61 : tsz Tryd.prog 61 = some 1 := rfl
@[go_sem] theorem hasZero_61 : hasZero Tryd.prog 61 = some 1 := rfl
@[go_sem] theorem tby_61 : tby Tryd.prog 61 = some 8 := rfl
@[go_sem] theorem zro_61 : zeroC Tryd.prog 61 = some [Abs.AV.nilf] := rfl
@[go_sem] theorem aggT_62 : aggT Tryd.prog 62 = some false := rfl
@[go_sem] theorem tsz_62 : tsz Tryd.prog 62 = some 1 := rfl
@[go_sem] theorem hasZero_62 : hasZero Tryd.prog 62 = some 1 := rfl
@[go_sem] theorem tby_62 : tby Tryd.prog 62 = some 8 := rfl
@[go_sem] theorem zro_62 : zeroC Tryd.prog 62 = some [Abs.AV.nilf] := rfl
@[go_sem] theorem aggT_63 : aggT Tryd.prog 63 = some false := rfl
@[go_sem] theorem tsz_63 : tsz Tryd.prog 63 = some 1 := rfl
@[go_sem] theorem hasZero_63 : hasZero Tryd.prog 63 = some 1 := rfl
@[go_sem] theorem tby_63 : tby Tryd.prog 63 = some 8 := rfl
@[go_sem] theorem zro_63 : zeroC Tryd.prog 63 = some [Abs.AV.nilf] := rfl
@[go_sem] theorem aggT_64 : aggT Tryd.prog 64 = some false := rfl
@[go_sem] theorem tsz_64 : tsz Tryd.prog 64 = some 1 := rfl
@[go_sem] theorem hasZero_64 : hasZero Tryd.prog 64 = some 1 := rfl
@[go_sem] theorem tby_64 : tby Tryd.prog 64 = some 8 := rfl
@[go_sem] theorem zro_64 : zeroC Tryd.prog 64 = some [Abs.AV.nilf] := rfl
@[go_sem] theorem aggT_65 : aggT Tryd.prog 65 = some false := rfl
@[go_sem] theorem tsz_65 : tsz Tryd.prog 65 = some 1 := rfl
@[go_sem] theorem hasZero_65 : hasZero Tryd.prog 65 = some 1 := rfl
@[go_sem] theorem tby_65 : tby Tryd.prog 65 = some 8 := rfl
@[go_sem] theorem zro_65 : zeroC Tryd.prog 65 = some [Abs.AV.nilf] := rfl
@[go_sem] theorem aggT_66 : aggT Tryd.prog 66 = some false := rfl
@[go_sem] theorem tsz_66 : tsz Tryd.prog 66 = some 1 := rfl
@[go_sem] theorem hasZero_66 : hasZero Tryd.prog 66 = some 1 := rfl
@[go_sem] theorem tby_66 : tby Tryd.prog 66 = some 8 := rfl
@[go_sem] theorem zro_66 : zeroC Tryd.prog 66 = some [Abs.AV.nilf] := rfl
@[go_sem] theorem und_67 : Tryd.prog.underlying 67 = some (.pointer 70) := rfl
@[go_sem] theorem aggT_67 : aggT Tryd.prog 67 = some false := rfl
@[go_sem] theorem tsz_67 : tsz Tryd.prog 67 = some 1 := rfl
@[go_sem] theorem hasZero_67 : hasZero Tryd.prog 67 = some 1 := rfl
@[go_sem] theorem tby_67 : tby Tryd.prog 67 = some 8 := rfl
@[go_sem] theorem zro_67 : zeroC Tryd.prog 67 = some [Abs.AV.nilp] := rfl
@[go_sem] theorem und_68 : Tryd.prog.underlying 68 = some (.slice 5) := rfl
@[go_sem] theorem aggT_68 : aggT Tryd.prog 68 = some false := rfl
@[go_sem] theorem tsz_68 : tsz Tryd.prog 68 = some 1 := rfl
@[go_sem] theorem hasZero_68 : hasZero Tryd.prog 68 = some 1 := rfl
@[go_sem] theorem tby_68 : tby Tryd.prog 68 = some 24 := rfl
@[go_sem] theorem zro_68 : zeroC Tryd.prog 68 = some [Abs.AV.nils] := rfl
@[go_sem] theorem aggT_69 : aggT Tryd.prog 69 = some true := rfl
@[go_sem] theorem tsz_69 : tsz Tryd.prog 69 = some 2 := rfl
@[go_sem] theorem hasZero_69 : hasZero Tryd.prog 69 = some 2 := rfl
@[go_sem] theorem tby_69 : tby Tryd.prog 69 = some 32 := rfl
@[go_sem] theorem szs_69 : szsOf Tryd.prog 69 = true := rfl
@[go_sem] theorem zro_69 : zeroC Tryd.prog 69 = some [Abs.AV.nilp, Abs.AV.nils] := rfl
@[go_sem] theorem aggT_70 : aggT Tryd.prog 70 = some true := rfl
@[go_sem] theorem tsz_70 : tsz Tryd.prog 70 = some 2 := rfl
@[go_sem] theorem hasZero_70 : hasZero Tryd.prog 70 = some 2 := rfl
@[go_sem] theorem tby_70 : tby Tryd.prog 70 = some 32 := rfl
@[go_sem] theorem szs_70 : szsOf Tryd.prog 70 = true := rfl
@[go_sem] theorem zro_70 : zeroC Tryd.prog 70 = some [Abs.AV.nilp, Abs.AV.nils] := rfl
@[go_sem] theorem aggT_71 : aggT Tryd.prog 71 = some false := rfl
@[go_sem] theorem tsz_71 : tsz Tryd.prog 71 = some 1 := rfl
@[go_sem] theorem hasZero_71 : hasZero Tryd.prog 71 = some 1 := rfl
@[go_sem] theorem tby_71 : tby Tryd.prog 71 = some 8 := rfl
@[go_sem] theorem zro_71 : zeroC Tryd.prog 71 = some [Abs.AV.nilf] := rfl
@[go_sem] theorem aggT_72 : aggT Tryd.prog 72 = some false := rfl
@[go_sem] theorem tsz_72 : tsz Tryd.prog 72 = some 1 := rfl
@[go_sem] theorem hasZero_72 : hasZero Tryd.prog 72 = some 1 := rfl
@[go_sem] theorem tby_72 : tby Tryd.prog 72 = some 8 := rfl
@[go_sem] theorem zro_72 : zeroC Tryd.prog 72 = some [Abs.AV.nilf] := rfl
@[go_sem] theorem aggT_73 : aggT Tryd.prog 73 = some false := rfl
@[go_sem] theorem tsz_73 : tsz Tryd.prog 73 = some 1 := rfl
@[go_sem] theorem hasZero_73 : hasZero Tryd.prog 73 = some 1 := rfl
@[go_sem] theorem tby_73 : tby Tryd.prog 73 = some 8 := rfl
@[go_sem] theorem zro_73 : zeroC Tryd.prog 73 = some [Abs.AV.nilf] := rfl
@[go_sem] theorem aggT_74 : aggT Tryd.prog 74 = some false := rfl
@[go_sem] theorem tsz_74 : tsz Tryd.prog 74 = some 1 := rfl
@[go_sem] theorem hasZero_74 : hasZero Tryd.prog 74 = some 1 := rfl
@[go_sem] theorem tby_74 : tby Tryd.prog 74 = some 16 := rfl
@[go_sem] theorem zro_74 : zeroC Tryd.prog 74 = some [Abs.AV.nili] := rfl
@[go_sem] theorem aggT_75 : aggT Tryd.prog 75 = some false := rfl
@[go_sem] theorem tsz_75 : tsz Tryd.prog 75 = some 1 := rfl
@[go_sem] theorem hasZero_75 : hasZero Tryd.prog 75 = some 1 := rfl
@[go_sem] theorem tby_75 : tby Tryd.prog 75 = some 16 := rfl
@[go_sem] theorem zro_75 : zeroC Tryd.prog 75 = some [Abs.AV.nili] := rfl
@[go_sem] theorem aggT_76 : aggT Tryd.prog 76 = some false := rfl
@[go_sem] theorem tsz_76 : tsz Tryd.prog 76 = some 1 := rfl
@[go_sem] theorem hasZero_76 : hasZero Tryd.prog 76 = some 1 := rfl
@[go_sem] theorem tby_76 : tby Tryd.prog 76 = some 0 := rfl
@[go_sem] theorem zro_76 : zeroC Tryd.prog 76 = some [Abs.AV.junk] := rfl
@[go_sem] theorem aggT_77 : aggT Tryd.prog 77 = some false := rfl
@[go_sem] theorem tsz_77 : tsz Tryd.prog 77 = some 1 := rfl
@[go_sem] theorem hasZero_77 : hasZero Tryd.prog 77 = some 1 := rfl
@[go_sem] theorem tby_77 : tby Tryd.prog 77 = some 8 := rfl
@[go_sem] theorem zro_77 : zeroC Tryd.prog 77 = some [Abs.AV.nilf] := rfl
@[go_sem] theorem aggT_78 : aggT Tryd.prog 78 = some false := rfl
@[go_sem] theorem tsz_78 : tsz Tryd.prog 78 = some 1 := rfl
@[go_sem] theorem hasZero_78 : hasZero Tryd.prog 78 = some 1 := rfl
@[go_sem] theorem tby_78 : tby Tryd.prog 78 = some 0 := rfl
@[go_sem] theorem zro_78 : zeroC Tryd.prog 78 = some [Abs.AV.junk] := rfl
@[go_sem] theorem aggT_79 : aggT Tryd.prog 79 = some false := rfl
@[go_sem] theorem tsz_79 : tsz Tryd.prog 79 = some 1 := rfl
@[go_sem] theorem hasZero_79 : hasZero Tryd.prog 79 = some 1 := rfl
@[go_sem] theorem tby_79 : tby Tryd.prog 79 = some 8 := rfl
@[go_sem] theorem zro_79 : zeroC Tryd.prog 79 = some [Abs.AV.nilf] := rfl
@[go_sem] theorem aggT_80 : aggT Tryd.prog 80 = some false := rfl
@[go_sem] theorem tsz_80 : tsz Tryd.prog 80 = some 1 := rfl
@[go_sem] theorem hasZero_80 : hasZero Tryd.prog 80 = some 1 := rfl
@[go_sem] theorem tby_80 : tby Tryd.prog 80 = some 8 := rfl
@[go_sem] theorem zro_80 : zeroC Tryd.prog 80 = some [Abs.AV.nilf] := rfl
@[go_sem] theorem aggT_81 : aggT Tryd.prog 81 = some false := rfl
@[go_sem] theorem tsz_81 : tsz Tryd.prog 81 = some 1 := rfl
@[go_sem] theorem hasZero_81 : hasZero Tryd.prog 81 = some 1 := rfl
@[go_sem] theorem tby_81 : tby Tryd.prog 81 = some 8 := rfl
@[go_sem] theorem zro_81 : zeroC Tryd.prog 81 = some [Abs.AV.nilf] := rfl
@[go_sem] theorem aggT_82 : aggT Tryd.prog 82 = some false := rfl
@[go_sem] theorem tsz_82 : tsz Tryd.prog 82 = some 1 := rfl
@[go_sem] theorem hasZero_82 : hasZero Tryd.prog 82 = some 1 := rfl
@[go_sem] theorem tby_82 : tby Tryd.prog 82 = some 8 := rfl
@[go_sem] theorem zro_82 : zeroC Tryd.prog 82 = some [Abs.AV.nilf] := rfl
@[go_sem] theorem aggT_83 : aggT Tryd.prog 83 = some false := rfl
@[go_sem] theorem tsz_83 : tsz Tryd.prog 83 = some 1 := rfl
@[go_sem] theorem hasZero_83 : hasZero Tryd.prog 83 = some 1 := rfl
@[go_sem] theorem tby_83 : tby Tryd.prog 83 = some 8 := rfl
@[go_sem] theorem zro_83 : zeroC Tryd.prog 83 = some [Abs.AV.nilf] := rfl
@[go_sem] theorem aggT_84 : aggT Tryd.prog 84 = some false := rfl
@[go_sem] theorem tsz_84 : tsz Tryd.prog 84 = some 1 := rfl
@[go_sem] theorem hasZero_84 : hasZero Tryd.prog 84 = some 1 := rfl
@[go_sem] theorem tby_84 : tby Tryd.prog 84 = some 8 := rfl
@[go_sem] theorem zro_84 : zeroC Tryd.prog 84 = some [Abs.AV.nilf] := rfl
@[go_sem] theorem aggT_85 : aggT Tryd.prog 85 = some false := rfl
@[go_sem] theorem tsz_85 : tsz Tryd.prog 85 = some 1 := rfl
@[go_sem] theorem hasZero_85 : hasZero Tryd.prog 85 = some 1 := rfl
@[go_sem] theorem tby_85 : tby Tryd.prog 85 = some 8 := rfl
@[go_sem] theorem zro_85 : zeroC Tryd.prog 85 = some [Abs.AV.nilf] := rfl
@[go_sem] theorem und_86 : Tryd.prog.underlying 86 = some (.pointer 5) := rfl
@[go_sem] theorem aggT_86 : aggT Tryd.prog 86 = some false := rfl
@[go_sem] theorem tsz_86 : tsz Tryd.prog 86 = some 1 := rfl
@[go_sem] theorem hasZero_86 : hasZero Tryd.prog 86 = some 1 := rfl
@[go_sem] theorem tby_86 : tby Tryd.prog 86 = some 8 := rfl
@[go_sem] theorem zro_86 : zeroC Tryd.prog 86 = some [Abs.AV.nilp] := rfl
@[go_sem] theorem aggT_87 : aggT Tryd.prog 87 = some false := rfl
@[go_sem] theorem tsz_87 : tsz Tryd.prog 87 = some 1 := rfl
@[go_sem] theorem hasZero_87 : hasZero Tryd.prog 87 = some 1 := rfl
@[go_sem] theorem tby_87 : tby Tryd.prog 87 = some 0 := rfl
@[go_sem] theorem zro_87 : zeroC Tryd.prog 87 = some [Abs.AV.junk] := rfl
@[go_sem] theorem aggT_88 : aggT Tryd.prog 88 = some false := rfl
@[go_sem] theorem tsz_88 : tsz Tryd.prog 88 = some 1 := rfl
@[go_sem] theorem hasZero_88 : hasZero Tryd.prog 88 = some 1 := rfl
@[go_sem] theorem tby_88 : tby Tryd.prog 88 = some 8 := rfl
@[go_sem] theorem zro_88 : zeroC Tryd.prog 88 = some [Abs.AV.nilf] := rfl
@[go_sem] theorem aggT_89 : aggT Tryd.prog 89 = some false := rfl
@[go_sem] theorem tsz_89 : tsz Tryd.prog 89 = some 1 := rfl
@[go_sem] theorem hasZero_89 : hasZero Tryd.prog 89 = some 1 := rfl
@[go_sem] theorem tby_89 : tby Tryd.prog 89 = some 8 := rfl
@[go_sem] theorem zro_89 : zeroC Tryd.prog 89 = some [Abs.AV.nilf] := rfl
@[go_sem] theorem aggT_90 : aggT Tryd.prog 90 = some false := rfl
@[go_sem] theorem tsz_90 : tsz Tryd.prog 90 = some 1 := rfl
@[go_sem] theorem hasZero_90 : hasZero Tryd.prog 90 = some 1 := rfl
@[go_sem] theorem tby_90 : tby Tryd.prog 90 = some 8 := rfl
@[go_sem] theorem zro_90 : zeroC Tryd.prog 90 = some [Abs.AV.nilf] := rfl
@[go_sem] theorem und_91 : Tryd.prog.underlying 91 = some (.unsafePointer) := rfl
@[go_sem] theorem aggT_91 : aggT Tryd.prog 91 = some false := rfl
@[go_sem] theorem tsz_91 : tsz Tryd.prog 91 = some 1 := rfl
@[go_sem] theorem hasZero_91 : hasZero Tryd.prog 91 = some 1 := rfl
@[go_sem] theorem tby_91 : tby Tryd.prog 91 = some 8 := rfl
@[go_sem] theorem zro_91 : zeroC Tryd.prog 91 = some [Abs.AV.nilp] := rfl
@[go_sem] theorem aggT_92 : aggT Tryd.prog 92 = some false := rfl
@[go_sem] theorem tsz_92 : tsz Tryd.prog 92 = some 1 := rfl
@[go_sem] theorem hasZero_92 : hasZero Tryd.prog 92 = some 1 := rfl
@[go_sem] theorem tby_92 : tby Tryd.prog 92 = some 8 := rfl
@[go_sem] theorem zro_92 : zeroC Tryd.prog 92 = some [Abs.AV.nilf] := rfl
@[go_sem] theorem aggT_93 : aggT Tryd.prog 93 = some true := rfl
@[go_sem] theorem tsz_93 : tsz Tryd.prog 93 = some 256 := rfl
@[go_sem] theorem hasZero_93 : hasZero Tryd.prog 93 = some 256 := rfl
@[go_sem] theorem tby_93 : tby Tryd.prog 93 = some 256 := rfl
@[go_sem] theorem und_94 : Tryd.prog.underlying 94 = some (.int .u64) := rfl
@[go_sem] theorem aggT_94 : aggT Tryd.prog 94 = some false := rfl
@[go_sem] theorem tsz_94 : tsz Tryd.prog 94 = some 1 := rfl
@[go_sem] theorem hasZero_94 : hasZero Tryd.prog 94 = some 1 := rfl
@[go_sem] theorem tby_94 : tby Tryd.prog 94 = some 8 := rfl
@[go_sem] theorem zro_94 : zeroC Tryd.prog 94 = some [Abs.AV.int IntKind.u64 0] := rfl
@[go_sem] theorem aggT_95 : aggT Tryd.prog 95 = some true := rfl
@[go_sem] theorem tsz_95 : tsz Tryd.prog 95 = some 2 := rfl
@[go_sem] theorem hasZero_95 : hasZero Tryd.prog 95 = some 2 := rfl
@[go_sem] theorem tby_95 : tby Tryd.prog 95 = some 2 := rfl
@[go_sem] theorem szs_95 : szsOf Tryd.prog 95 = true := rfl
@[go_sem] theorem zro_95 : zeroC Tryd.prog 95 = some [Abs.AV.int IntKind.u8 0, Abs.AV.int IntKind.u8 0] := rfl
@[go_sem] theorem aggT_96 : aggT Tryd.prog 96 = some true := rfl
@[go_sem] theorem tsz_96 : tsz Tryd.prog 96 = some 2 := rfl
@[go_sem] theorem hasZero_96 : hasZero Tryd.prog 96 = some 2 := rfl
@[go_sem] theorem tby_96 : tby Tryd.prog 96 = some 2 := rfl
@[go_sem] theorem szs_96 : szsOf Tryd.prog 96 = true := rfl
@[go_sem] theorem zro_96 : zeroC Tryd.prog 96 = some [Abs.AV.int IntKind.u8 0, Abs.AV.int IntKind.u8 0] := rfl
@[go_sem] theorem aggT_97 : aggT Tryd.prog 97 = some true := rfl
@[go_sem] theorem tsz_97 : tsz Tryd.prog 97 = some 32 := rfl
@[go_sem] theorem hasZero_97 : hasZero Tryd.prog 97 = some 32 := rfl
@[go_sem] theorem tby_97 : tby Tryd.prog 97 = some 32 := rfl
@[go_sem] theorem aggT_98 : aggT Tryd.prog 98 = some false := rfl
@[go_sem] theorem tsz_98 : tsz Tryd.prog 98 = some 1 := rfl
@[go_sem] theorem hasZero_98 : hasZero Tryd.prog 98 = some 1 := rfl
@[go_sem] theorem tby_98 : tby Tryd.prog 98 = some 8 := rfl
@[go_sem] theorem zro_98 : zeroC Tryd.prog 98 = some [Abs.AV.nilf] := rfl
@[go_sem] theorem aggT_99 : aggT Tryd.prog 99 = some false := rfl
@[go_sem] theorem tsz_99 : tsz Tryd.prog 99 = some 1 := rfl
@[go_sem] theorem hasZero_99 : hasZero Tryd.prog 99 = some 1 := rfl
@[go_sem] theorem tby_99 : tby Tryd.prog 99 = some 8 := rfl
@[go_sem] theorem zro_99 : zeroC Tryd.prog 99 = some [Abs.AV.nilf] := rfl
@[go_sem] theorem fld_7_0 : fldOf Tryd.prog 7 0 = some (0, 1) := rfl
@[go_sem high] theorem fa_7_0 (id g i c : Nat) : aFieldAddr Tryd.prog 7 (.ptr id g i c) 0 = some (True, .ptr id g i (c + 0)) := fieldAddr_ptr (n := 0) rfl id g i c
@[go_sem high] theorem ff_7_0 (cs : List AV) : aFieldAddr Tryd.prog 7 (.fptr cs) 0 = some (0 ≤ cs.length, .fptr (cs.drop 0)) := fieldAddr_fptr (n := 0) rfl cs
@[go_sem high] theorem fv_7_0 (cs : List AV) : aField Tryd.prog 7 (.agg cs) 0 = aPart Tryd.prog 2 cs 0 := field_agg rfl cs
@[go_sem] theorem fld_7_1 : fldOf Tryd.prog 7 1 = some (1, 1) := rfl
@[go_sem high] theorem fa_7_1 (id g i c : Nat) : aFieldAddr Tryd.prog 7 (.ptr id g i c) 1 = some (True, .ptr id g i (c + 1)) := fieldAddr_ptr (n := 0) rfl id g i c
@[go_sem high] theorem ff_7_1 (cs : List AV) : aFieldAddr Tryd.prog 7 (.fptr cs) 1 = some (1 ≤ cs.length, .fptr (cs.drop 1)) := fieldAddr_fptr (n := 0) rfl cs
@[go_sem high] theorem fv_7_1 (cs : List AV) : aField Tryd.prog 7 (.agg cs) 1 = aPart Tryd.prog 3 cs 1 := field_agg rfl cs
@[go_sem] theorem fld_7_2 : fldOf Tryd.prog 7 2 = some (2, 1) := rfl
@[go_sem high] theorem fa_7_2 (id g i c : Nat) : aFieldAddr Tryd.prog 7 (.ptr id g i c) 2 = some (True, .ptr id g i (c + 2)) := fieldAddr_ptr (n := 0) rfl id g i c
@[go_sem high] theorem ff_7_2 (cs : List AV) : aFieldAddr Tryd.prog 7 (.fptr cs) 2 = some (2 ≤ cs.length, .fptr (cs.drop 2)) := fieldAddr_fptr (n := 0) rfl cs
@[go_sem high] theorem fv_7_2 (cs : List AV) : aField Tryd.prog 7 (.agg cs) 2 = aPart Tryd.prog 4 cs 2 := field_agg rfl cs
@[go_sem] theorem fld_7_3 : fldOf Tryd.prog 7 3 = some (3, 1) := rfl
@[go_sem high] theorem fa_7_3 (id g i c : Nat) : aFieldAddr Tryd.prog 7 (.ptr id g i c) 3 = some (True, .ptr id g i (c + 3)) := fieldAddr_ptr (n := 0) rfl id g i c
@[go_sem high] theorem ff_7_3 (cs : List AV) : aFieldAddr Tryd.prog 7 (.fptr cs) 3 = some (3 ≤ cs.length, .fptr (cs.drop 3)) := fieldAddr_fptr (n := 0) rfl cs
@[go_sem high] theorem fv_7_3 (cs : List AV) : aField Tryd.prog 7 (.agg cs) 3 = aPart Tryd.prog 6 cs 3 := field_agg rfl cs
@[go_sem] theorem fld_8_0 : fldOf Tryd.prog 8 0 = some (0, 1) := rfl
@[go_sem high] theorem fa_8_0 (id g i c : Nat) : aFieldAddr Tryd.prog 8 (.ptr id g i c) 0 = some (True, .ptr id g i (c + 0)) := fieldAddr_ptr (n := 0) rfl id g i c
@[go_sem high] theorem ff_8_0 (cs : List AV) : aFieldAddr Tryd.prog 8 (.fptr cs) 0 = some (0 ≤ cs.length, .fptr (cs.drop 0)) := fieldAddr_fptr (n := 0) rfl cs
@[go_sem high] theorem fv_8_0 (cs : List AV) : aField Tryd.prog 8 (.agg cs) 0 = aPart Tryd.prog 2 cs 0 := field_agg rfl cs
@[go_sem] theorem fld_8_1 : fldOf Tryd.prog 8 1 = some (1, 1) := rfl
@[go_sem high] theorem fa_8_1 (id g i c : Nat) : aFieldAddr Tryd.prog 8 (.ptr id g i c) 1 = some (True, .ptr id g i (c + 1)) := fieldAddr_ptr (n := 0) rfl id g i c
@[go_sem high] theorem ff_8_1 (cs : List AV) : aFieldAddr Tryd.prog 8 (.fptr cs) 1 = some (1 ≤ cs.length, .fptr (cs.drop 1)) := fieldAddr_fptr (n := 0) rfl cs
@[go_sem high] theorem fv_8_1 (cs : List AV) : aField Tryd.prog 8 (.agg cs) 1 = aPart Tryd.prog 3 cs 1 := field_agg rfl cs
@[go_sem] theorem fld_8_2 : fldOf Tryd.prog 8 2 = some (2, 1) := rfl
@[go_sem high] theorem fa_8_2 (id g i c : Nat) : aFieldAddr Tryd.prog 8 (.ptr id g i c) 2 = some (True, .ptr id g i (c + 2)) := fieldAddr_ptr (n := 0) rfl id g i c
@[go_sem high] theorem ff_8_2 (cs : List AV) : aFieldAddr Tryd.prog 8 (.fptr cs) 2 = some (2 ≤ cs.length, .fptr (cs.drop 2)) := fieldAddr_fptr (n := 0) rfl cs
@[go_sem high] theorem fv_8_2 (cs : List AV) : aField Tryd.prog 8 (.agg cs) 2 = aPart Tryd.prog 4 cs 2 := field_agg rfl cs
@[go_sem] theorem fld_8_3 : fldOf Tryd.prog 8 3 = some (3, 1) := rfl
@[go_sem high] theorem fa_8_3 (id g i c : Nat) : aFieldAddr Tryd.prog 8 (.ptr id g i c) 3 = some (True, .ptr id g i (c + 3)) := fieldAddr_ptr (n := 0) rfl id g i c
@[go_sem high] theorem ff_8_3 (cs : List AV) : aFieldAddr Tryd.prog 8 (.fptr cs) 3 = some (3 ≤ cs.length, .fptr (cs.drop 3)) := fieldAddr_fptr (n := 0) rfl cs
@[go_sem high] theorem fv_8_3 (cs : List AV) : aField Tryd.prog 8 (.agg cs) 3 = aPart Tryd.prog 6 cs 3 := field_agg rfl cs
@[go_sem] theorem fld_13_0 : fldOf Tryd.prog 13 0 = some (0, 1) := rfl
@[go_sem high] theorem fa_13_0 (id g i c : Nat) : aFieldAddr Tryd.prog 13 (.ptr id g i c) 0 = some (True, .ptr id g i (c + 0)) := fieldAddr_ptr (n := 0) rfl id g i c
@[go_sem high] theorem ff_13_0 (cs : List AV) : aFieldAddr Tryd.prog 13 (.fptr cs) 0 = some (0 ≤ cs.length, .fptr (cs.drop 0)) := fieldAddr_fptr (n := 0) rfl cs
@[go_sem high] theorem fv_13_0 (cs : List AV) : aField Tryd.prog 13 (.agg cs) 0 = aPart Tryd.prog 9 cs 0 := field_agg rfl cs
@[go_sem] theorem fld_13_1 : fldOf Tryd.prog 13 1 = some (1, 1) := rfl
@[go_sem high] theorem fa_13_1 (id g i c : Nat) : aFieldAddr Tryd.prog 13 (.ptr id g i c) 1 = some (True, .ptr id g i (c + 1)) := fieldAddr_ptr (n := 0) rfl id g i c
@[go_sem high] theorem ff_13_1 (cs : List AV) : aFieldAddr Tryd.prog 13 (.fptr cs) 1 = some (1 ≤ cs.length, .fptr (cs.drop 1)) := fieldAddr_fptr (n := 0) rfl cs
@[go_sem high] theorem fv_13_1 (cs : List AV) : aField Tryd.prog 13 (.agg cs) 1 = aPart Tryd.prog 12 cs 1 := field_agg rfl cs
@[go_sem] theorem fld_14_0 : fldOf Tryd.prog 14 0 = some (0, 1) := rfl
@[go_sem high] theorem fa_14_0 (id g i c : Nat) : aFieldAddr Tryd.prog 14 (.ptr id g i c) 0 = some (True, .ptr id g i (c + 0)) := fieldAddr_ptr (n := 0) rfl id g i c
@[go_sem high] theorem ff_14_0 (cs : List AV) : aFieldAddr Tryd.prog 14 (.fptr cs) 0 = some (0 ≤ cs.length, .fptr (cs.drop 0)) := fieldAddr_fptr (n := 0) rfl cs
@[go_sem high] theorem fv_14_0 (cs : List AV) : aField Tryd.prog 14 (.agg cs) 0 = aPart Tryd.prog 9 cs 0 := field_agg rfl cs
@[go_sem] theorem fld_14_1 : fldOf Tryd.prog 14 1 = some (1, 1) := rfl
@[go_sem high] theorem fa_14_1 (id g i c : Nat) : aFieldAddr Tryd.prog 14 (.ptr id g i c) 1 = some (True, .ptr id g i (c + 1)) := fieldAddr_ptr (n := 0) rfl id g i c
@[go_sem high] theorem ff_14_1 (cs : List AV) : aFieldAddr Tryd.prog 14 (.fptr cs) 1 = some (1 ≤ cs.length, .fptr (cs.drop 1)) := fieldAddr_fptr (n := 0) rfl cs
@[go_sem high] theorem fv_14_1 (cs : List AV) : aField Tryd.prog 14 (.agg cs) 1 = aPart Tryd.prog 12 cs 1 := field_agg rfl cs
@[go_sem] theorem fld_18_0 : fldOf Tryd.prog 18 0 = some (0, 1) := rfl
@[go_sem high] theorem fa_18_0 (id g i c : Nat) : aFieldAddr Tryd.prog 18 (.ptr id g i c) 0 = some (True, .ptr id g i (c + 0)) := fieldAddr_ptr (n := 0) rfl id g i c
@[go_sem high] theorem ff_18_0 (cs : List AV) : aFieldAddr Tryd.prog 18 (.fptr cs) 0 = some (0 ≤ cs.length, .fptr (cs.drop 0)) := fieldAddr_fptr (n := 0) rfl cs
@[go_sem high] theorem fv_18_0 (cs : List AV) : aField Tryd.prog 18 (.agg cs) 0 = aPart Tryd.prog 17 cs 0 := field_agg rfl cs
@[go_sem] theorem fld_19_0 : fldOf Tryd.prog 19 0 = some (0, 1) := rfl
@[go_sem high] theorem fa_19_0 (id g i c : Nat) : aFieldAddr Tryd.prog 19 (.ptr id g i c) 0 = some (True, .ptr id g i (c + 0)) := fieldAddr_ptr (n := 0) rfl id g i c
@[go_sem high] theorem ff_19_0 (cs : List AV) : aFieldAddr Tryd.prog 19 (.fptr cs) 0 = some (0 ≤ cs.length, .fptr (cs.drop 0)) := fieldAddr_fptr (n := 0) rfl cs
@[go_sem high] theorem fv_19_0 (cs : List AV) : aField Tryd.prog 19 (.agg cs) 0 = aPart Tryd.prog 17 cs 0 := field_agg rfl cs
@[go_sem] theorem fld_23_0 : fldOf Tryd.prog 23 0 = some (0, 1) := rfl
@[go_sem high] theorem fa_23_0 (id g i c : Nat) : aFieldAddr Tryd.prog 23 (.ptr id g i c) 0 = some (True, .ptr id g i (c + 0)) := fieldAddr_ptr (n := 0) rfl id g i c
@[go_sem high] theorem ff_23_0 (cs : List AV) : aFieldAddr Tryd.prog 23 (.fptr cs) 0 = some (0 ≤ cs.length, .fptr (cs.drop 0)) := fieldAddr_fptr (n := 0) rfl cs
@[go_sem high] theorem fv_23_0 (cs : List AV) : aField Tryd.prog 23 (.agg cs) 0 = aPart Tryd.prog 9 cs 0 := field_agg rfl cs
@[go_sem] theorem fld_23_1 : fldOf Tryd.prog 23 1 = some (1, 1) := rfl
@[go_sem high] theorem fa_23_1 (id g i c : Nat) : aFieldAddr Tryd.prog 23 (.ptr id g i c) 1 = some (True, .ptr id g i (c + 1)) := fieldAddr_ptr (n := 0) rfl id g i c
@[go_sem high] theorem ff_23_1 (cs : List AV) : aFieldAddr Tryd.prog 23 (.fptr cs) 1 = some (1 ≤ cs.length, .fptr (cs.drop 1)) := fieldAddr_fptr (n := 0) rfl cs
@[go_sem high] theorem fv_23_1 (cs : List AV) : aField Tryd.prog 23 (.agg cs) 1 = aPart Tryd.prog 22 cs 1 := field_agg rfl cs
@[go_sem] theorem fld_23_2 : fldOf Tryd.prog 23 2 = some (2, 1) := rfl
@[go_sem high] theorem fa_23_2 (id g i c : Nat) : aFieldAddr Tryd.prog 23 (.ptr id g i c) 2 = some (True, .ptr id g i (c + 2)) := fieldAddr_ptr (n := 0) rfl id g i c
@[go_sem high] theorem ff_23_2 (cs : List AV) : aFieldAddr Tryd.prog 23 (.fptr cs) 2 = some (2 ≤ cs.length, .fptr (cs.drop 2)) := fieldAddr_fptr (n := 0) rfl cs
@[go_sem high] theorem fv_23_2 (cs : List AV) : aField Tryd.prog 23 (.agg cs) 2 = aPart Tryd.prog 9 cs 2 := field_agg rfl cs
@[go_sem] theorem fld_24_0 : fldOf Tryd.prog 24 0 = some (0, 1) := rfl
@[go_sem high] theorem fa_24_0 (id g i c : Nat) : aFieldAddr Tryd.prog 24 (.ptr id g i c) 0 = some (True, .ptr id g i (c + 0)) := fieldAddr_ptr (n := 0) rfl id g i c
@[go_sem high] theorem ff_24_0 (cs : List AV) : aFieldAddr Tryd.prog 24 (.fptr cs) 0 = some (0 ≤ cs.length, .fptr (cs.drop 0)) := fieldAddr_fptr (n := 0) rfl cs
@[go_sem high] theorem fv_24_0 (cs : List AV) : aField Tryd.prog 24 (.agg cs) 0 = aPart Tryd.prog 9 cs 0 := field_agg rfl cs
@[go_sem] theorem fld_24_1 : fldOf Tryd.prog 24 1 = some (1, 1) := rfl
@[go_sem high] theorem fa_24_1 (id g i c : Nat) : aFieldAddr Tryd.prog 24 (.ptr id g i c) 1 = some (True, .ptr id g i (c + 1)) := fieldAddr_ptr (n := 0) rfl id g i c
@[go_sem high] theorem ff_24_1 (cs : List AV) : aFieldAddr Tryd.prog 24 (.fptr cs) 1 = some (1 ≤ cs.length, .fptr (cs.drop 1)) := fieldAddr_fptr (n := 0) rfl cs
@[go_sem high] theorem fv_24_1 (cs : List AV) : aField Tryd.prog 24 (.agg cs) 1 = aPart Tryd.prog 22 cs 1 := field_agg rfl cs
@[go_sem] theorem fld_24_2 : fldOf Tryd.prog 24 2 = some (2, 1) := rfl
@[go_sem high] theorem fa_24_2 (id g i c : Nat) : aFieldAddr Tryd.prog 24 (.ptr id g i c) 2 = some (True, .ptr id g i (c + 2)) := fieldAddr_ptr (n := 0) rfl id g i c
@[go_sem high] theorem ff_24_2 (cs : List AV) : aFieldAddr Tryd.prog 24 (.fptr cs) 2 = some (2 ≤ cs.length, .fptr (cs.drop 2)) := fieldAddr_fptr (n := 0) rfl cs
@[go_sem high] theorem fv_24_2 (cs : List AV) : aField Tryd.prog 24 (.agg cs) 2 = aPart Tryd.prog 9 cs 2 := field_agg rfl cs
@[go_sem] theorem fld_46_0 : fldOf Tryd.prog 46 0 = some (0, 1) := rfl
@[go_sem high] theorem fa_46_0 (id g i c : Nat) : aFieldAddr Tryd.prog 46 (.ptr id g i c) 0 = some (True, .ptr id g i (c + 0)) := fieldAddr_ptr (n := 0) rfl id g i c
@[go_sem high] theorem ff_46_0 (cs : List AV) : aFieldAddr Tryd.prog 46 (.fptr cs) 0 = some (0 ≤ cs.length, .fptr (cs.drop 0)) := fieldAddr_fptr (n := 0) rfl cs
@[go_sem high] theorem fv_46_0 (cs : List AV) : aField Tryd.prog 46 (.agg cs) 0 = aPart Tryd.prog 9 cs 0 := field_agg rfl cs
@[go_sem] theorem fld_46_1 : fldOf Tryd.prog 46 1 = some (1, 1) := rfl
@[go_sem high] theorem fa_46_1 (id g i c : Nat) : aFieldAddr Tryd.prog 46 (.ptr id g i c) 1 = some (True, .ptr id g i (c + 1)) := fieldAddr_ptr (n := 0) rfl id g i c
@[go_sem high] theorem ff_46_1 (cs : List AV) : aFieldAddr Tryd.prog 46 (.fptr cs) 1 = some (1 ≤ cs.length, .fptr (cs.drop 1)) := fieldAddr_fptr (n := 0) rfl cs
@[go_sem high] theorem fv_46_1 (cs : List AV) : aField Tryd.prog 46 (.agg cs) 1 = aPart Tryd.prog 25 cs 1 := field_agg rfl cs
@[go_sem] theorem fld_47_0 : fldOf Tryd.prog 47 0 = some (0, 1) := rfl
@[go_sem high] theorem fa_47_0 (id g i c : Nat) : aFieldAddr Tryd.prog 47 (.ptr id g i c) 0 = some (True, .ptr id g i (c + 0)) := fieldAddr_ptr (n := 0) rfl id g i c
@[go_sem high] theorem ff_47_0 (cs : List AV) : aFieldAddr Tryd.prog 47 (.fptr cs) 0 = some (0 ≤ cs.length, .fptr (cs.drop 0)) := fieldAddr_fptr (n := 0) rfl cs
@[go_sem high] theorem fv_47_0 (cs : List AV) : aField Tryd.prog 47 (.agg cs) 0 = aPart Tryd.prog 9 cs 0 := field_agg rfl cs
@[go_sem] theorem fld_47_1 : fldOf Tryd.prog 47 1 = some (1, 1) := rfl
@[go_sem high] theorem fa_47_1 (id g i c : Nat) : aFieldAddr Tryd.prog 47 (.ptr id g i c) 1 = some (True, .ptr id g i (c + 1)) := fieldAddr_ptr (n := 0) rfl id g i c
@[go_sem high] theorem ff_47_1 (cs : List AV) : aFieldAddr Tryd.prog 47 (.fptr cs) 1 = some (1 ≤ cs.length, .fptr (cs.drop 1)) := fieldAddr_fptr (n := 0) rfl cs
@[go_sem high] theorem fv_47_1 (cs : List AV) : aField Tryd.prog 47 (.agg cs) 1 = aPart Tryd.prog 25 cs 1 := field_agg rfl cs
@[go_sem] theorem fld_50_0 : fldOf Tryd.prog 50 0 = some (0, 1) := rfl
@[go_sem high] theorem fa_50_0 (id g i c : Nat) : aFieldAddr Tryd.prog 50 (.ptr id g i c) 0 = some (True, .ptr id g i (c + 0)) := fieldAddr_ptr (n := 0) rfl id g i c
@[go_sem high] theorem ff_50_0 (cs : List AV) : aFieldAddr Tryd.prog 50 (.fptr cs) 0 = some (0 ≤ cs.length, .fptr (cs.drop 0)) := fieldAddr_fptr (n := 0) rfl cs
@[go_sem high] theorem fv_50_0 (cs : List AV) : aField Tryd.prog 50 (.agg cs) 0 = aPart Tryd.prog 9 cs 0 := field_agg rfl cs
@[go_sem] theorem fld_50_1 : fldOf Tryd.prog 50 1 = some (1, 1) := rfl
@[go_sem high] theorem fa_50_1 (id g i c : Nat) : aFieldAddr Tryd.prog 50 (.ptr id g i c) 1 = some (True, .ptr id g i (c + 1)) := fieldAddr_ptr (n := 0) rfl id g i c
@[go_sem high] theorem ff_50_1 (cs : List AV) : aFieldAddr Tryd.prog 50 (.fptr cs) 1 = some (1 ≤ cs.length, .fptr (cs.drop 1)) := fieldAddr_fptr (n := 0) rfl cs
@[go_sem high] theorem fv_50_1 (cs : List AV) : aField Tryd.prog 50 (.agg cs) 1 = aPart Tryd.prog 38 cs 1 := field_agg rfl cs
@[go_sem] theorem fld_51_0 : fldOf Tryd.prog 51 0 = some (0, 1) := rfl
@[go_sem high] theorem fa_51_0 (id g i c : Nat) : aFieldAddr Tryd.prog 51 (.ptr id g i c) 0 = some (True, .ptr id g i (c + 0)) := fieldAddr_ptr (n := 0) rfl id g i c
@[go_sem high] theorem ff_51_0 (cs : List AV) : aFieldAddr Tryd.prog 51 (.fptr cs) 0 = some (0 ≤ cs.length, .fptr (cs.drop 0)) := fieldAddr_fptr (n := 0) rfl cs
@[go_sem high] theorem fv_51_0 (cs : List AV) : aField Tryd.prog 51 (.agg cs) 0 = aPart Tryd.prog 9 cs 0 := field_agg rfl cs
@[go_sem] theorem fld_51_1 : fldOf Tryd.prog 51 1 = some (1, 1) := rfl
@[go_sem high] theorem fa_51_1 (id g i c : Nat) : aFieldAddr Tryd.prog 51 (.ptr id g i c) 1 = some (True, .ptr id g i (c + 1)) := fieldAddr_ptr (n := 0) rfl id g i c
@[go_sem high] theorem ff_51_1 (cs : List AV) : aFieldAddr Tryd.prog 51 (.fptr cs) 1 = some (1 ≤ cs.length, .fptr (cs.drop 1)) := fieldAddr_fptr (n := 0) rfl cs
@[go_sem high] theorem fv_51_1 (cs : List AV) : aField Tryd.prog 51 (.agg cs) 1 = aPart Tryd.prog 38 cs 1 := field_agg rfl cs
@[go_sem] theorem fld_56_0 : fldOf Tryd.prog 56 0 = some (0, 1) := rfl
@[go_sem high] theorem fa_56_0 (id g i c : Nat) : aFieldAddr Tryd.prog 56 (.ptr id g i c) 0 = some (True, .ptr id g i (c + 0)) := fieldAddr_ptr (n := 0) rfl id g i c
@[go_sem high] theorem ff_56_0 (cs : List AV) : aFieldAddr Tryd.prog 56 (.fptr cs) 0 = some (0 ≤ cs.length, .fptr (cs.drop 0)) := fieldAddr_fptr (n := 0) rfl cs
@[go_sem high] theorem fv_56_0 (cs : List AV) : aField Tryd.prog 56 (.agg cs) 0 = aPart Tryd.prog 9 cs 0 := field_agg rfl cs
@[go_sem] theorem fld_56_1 : fldOf Tryd.prog 56 1 = some (1, 1) := rfl
@[go_sem high] theorem fa_56_1 (id g i c : Nat) : aFieldAddr Tryd.prog 56 (.ptr id g i c) 1 = some (True, .ptr id g i (c + 1)) := fieldAddr_ptr (n := 0) rfl id g i c
@[go_sem high] theorem ff_56_1 (cs : List AV) : aFieldAddr Tryd.prog 56 (.fptr cs) 1 = some (1 ≤ cs.length, .fptr (cs.drop 1)) := fieldAddr_fptr (n := 0) rfl cs
@[go_sem high] theorem fv_56_1 (cs : List AV) : aField Tryd.prog 56 (.agg cs) 1 = aPart Tryd.prog 3 cs 1 := field_agg rfl cs
@[go_sem] theorem fld_56_2 : fldOf Tryd.prog 56 2 = some (2, 1) := rfl
@[go_sem high] theorem fa_56_2 (id g i c : Nat) : aFieldAddr Tryd.prog 56 (.ptr id g i c) 2 = some (True, .ptr id g i (c + 2)) := fieldAddr_ptr (n := 0) rfl id g i c
@[go_sem high] theorem ff_56_2 (cs : List AV) : aFieldAddr Tryd.prog 56 (.fptr cs) 2 = some (2 ≤ cs.length, .fptr (cs.drop 2)) := fieldAddr_fptr (n := 0) rfl cs
@[go_sem high] theorem fv_56_2 (cs : List AV) : aField Tryd.prog 56 (.agg cs) 2 = aPart Tryd.prog 3 cs 2 := field_agg rfl cs
@[go_sem] theorem fld_57_0 : fldOf Tryd.prog 57 0 = some (0, 1) := rfl
@[go_sem high] theorem fa_57_0 (id g i c : Nat) : aFieldAddr Tryd.prog 57 (.ptr id g i c) 0 = some (True, .ptr id g i (c + 0)) := fieldAddr_ptr (n := 0) rfl id g i c
@[go_sem high] theorem ff_57_0 (cs : List AV) : aFieldAddr Tryd.prog 57 (.fptr cs) 0 = some (0 ≤ cs.length, .fptr (cs.drop 0)) := fieldAddr_fptr (n := 0) rfl cs
@[go_sem high] theorem fv_57_0 (cs : List AV) : aField Tryd.prog 57 (.agg cs) 0 = aPart Tryd.prog 9 cs 0 := field_agg rfl cs
@[go_sem] theorem fld_57_1 : fldOf Tryd.prog 57 1 = some (1, 1) := rfl
@[go_sem high] theorem fa_57_1 (id g i c : Nat) : aFieldAddr Tryd.prog 57 (.ptr id g i c) 1 = some (True, .ptr id g i (c + 1)) := fieldAddr_ptr (n := 0) rfl id g i c
@[go_sem high] theorem ff_57_1 (cs : List AV) : aFieldAddr Tryd.prog 57 (.fptr cs) 1 = some (1 ≤ cs.length, .fptr (cs.drop 1)) := fieldAddr_fptr (n := 0) rfl cs
@[go_sem high] theorem fv_57_1 (cs : List AV) : aField Tryd.prog 57 (.agg cs) 1 = aPart Tryd.prog 3 cs 1 := field_agg rfl cs
@[go_sem] theorem fld_57_2 : fldOf Tryd.prog 57 2 = some (2, 1) := rfl
@[go_sem high] theorem fa_57_2 (id g i c : Nat) : aFieldAddr Tryd.prog 57 (.ptr id g i c) 2 = some (True, .ptr id g i (c + 2)) := fieldAddr_ptr (n := 0) rfl id g i c
@[go_sem high] theorem ff_57_2 (cs : List AV) : aFieldAddr Tryd.prog 57 (.fptr cs) 2 = some (2 ≤ cs.length, .fptr (cs.drop 2)) := fieldAddr_fptr (n := 0) rfl cs
@[go_sem high] theorem fv_57_2 (cs : List AV) : aField Tryd.prog 57 (.agg cs) 2 = aPart Tryd.prog 3 cs 2 := field_agg rfl cs
@[go_sem] theorem fld_69_0 : fldOf Tryd.prog 69 0 = some (0, 1) := rfl
@[go_sem high] theorem fa_69_0 (id g i c : Nat) : aFieldAddr Tryd.prog 69 (.ptr id g i c) 0 = some (True, .ptr id g i (c + 0)) := fieldAddr_ptr (n := 0) rfl id g i c
@[go_sem high] theorem ff_69_0 (cs : List AV) : aFieldAddr Tryd.prog 69 (.fptr cs) 0 = some (0 ≤ cs.length, .fptr (cs.drop 0)) := fieldAddr_fptr (n := 0) rfl cs
@[go_sem high] theorem fv_69_0 (cs : List AV) : aField Tryd.prog 69 (.agg cs) 0 = aPart Tryd.prog 67 cs 0 := field_agg rfl cs
@[go_sem] theorem fld_69_1 : fldOf Tryd.prog 69 1 = some (1, 1) := rfl
@[go_sem high] theorem fa_69_1 (id g i c : Nat) : aFieldAddr Tryd.prog 69 (.ptr id g i c) 1 = some (True, .ptr id g i (c + 1)) := fieldAddr_ptr (n := 0) rfl id g i c
@[go_sem high] theorem ff_69_1 (cs : List AV) : aFieldAddr Tryd.prog 69 (.fptr cs) 1 = some (1 ≤ cs.length, .fptr (cs.drop 1)) := fieldAddr_fptr (n := 0) rfl cs
@[go_sem high] theorem fv_69_1 (cs : List AV) : aField Tryd.prog 69 (.agg cs) 1 = aPart Tryd.prog 68 cs 1 := field_agg rfl cs
@[go_sem] theorem fld_70_0 : fldOf Tryd.prog 70 0 = some (0, 1) := rfl
@[go_sem high] theorem fa_70_0 (id g i c : Nat) : aFieldAddr Tryd.prog 70 (.ptr id g i c) 0 = some (True, .ptr id g i (c + 0)) := fieldAddr_ptr (n := 0) rfl id g i c
@[go_sem high] theorem ff_70_0 (cs : List AV) : aFieldAddr Tryd.prog 70 (.fptr cs) 0 = some (0 ≤ cs.length, .fptr (cs.drop 0)) := fieldAddr_fptr (n := 0) rfl cs
@[go_sem high] theorem fv_70_0 (cs : List AV) : aField Tryd.prog 70 (.agg cs) 0 = aPart Tryd.prog 67 cs 0 := field_agg rfl cs
@[go_sem] theorem fld_70_1 : fldOf Tryd.prog 70 1 = some (1, 1) := rfl
@[go_sem high] theorem fa_70_1 (id g i c : Nat) : aFieldAddr Tryd.prog 70 (.ptr id g i c) 1 = some (True, .ptr id g i (c + 1)) := fieldAddr_ptr (n := 0) rfl id g i c
@[go_sem high] theorem ff_70_1 (cs : List AV) : aFieldAddr Tryd.prog 70 (.fptr cs) 1 = some (1 ≤ cs.length, .fptr (cs.drop 1)) := fieldAddr_fptr (n := 0) rfl cs
@[go_sem high] theorem fv_70_1 (cs : List AV) : aField Tryd.prog 70 (.agg cs) 1 = aPart Tryd.prog 68 cs 1 := field_agg rfl cs
@[go_sem] theorem fld_95_0 : fldOf Tryd.prog 95 0 = some (0, 1) := rfl
@[go_sem high] theorem fa_95_0 (id g i c : Nat) : aFieldAddr Tryd.prog 95 (.ptr id g i c) 0 = some (True, .ptr id g i (c + 0)) := fieldAddr_ptr (n := 0) rfl id g i c
@[go_sem high] theorem ff_95_0 (cs : List AV) : aFieldAddr Tryd.prog 95 (.fptr cs) 0 = some (0 ≤ cs.length, .fptr (cs.drop 0)) := fieldAddr_fptr (n := 0) rfl cs
@[go_sem high] theorem fv_95_0 (cs : List AV) : aField Tryd.prog 95 (.agg cs) 0 = aPart Tryd.prog 5 cs 0 := field_agg rfl cs
@[go_sem] theorem fld_95_1 : fldOf Tryd.prog 95 1 = some (1, 1) := rfl
@[go_sem high] theorem fa_95_1 (id g i c : Nat) : aFieldAddr Tryd.prog 95 (.ptr id g i c) 1 = some (True, .ptr id g i (c + 1)) := fieldAddr_ptr (n := 0) rfl id g i c
@[go_sem high] theorem ff_95_1 (cs : List AV) : aFieldAddr Tryd.prog 95 (.fptr cs) 1 = some (1 ≤ cs.length, .fptr (cs.drop 1)) := fieldAddr_fptr (n := 0) rfl cs
@[go_sem high] theorem fv_95_1 (cs : List AV) : aField Tryd.prog 95 (.agg cs) 1 = aPart Tryd.prog 5 cs 1 := field_agg rfl cs
@[go_sem] theorem fld_96_0 : fldOf Tryd.prog 96 0 = some (0, 1) := rfl
@[go_sem high] theorem fa_96_0 (id g i c : Nat) : aFieldAddr Tryd.prog 96 (.ptr id g i c) 0 = some (True, .ptr id g i (c + 0)) := fieldAddr_ptr (n := 0) rfl id g i c
@[go_sem high] theorem ff_96_0 (cs : List AV) : aFieldAddr Tryd.prog 96 (.fptr cs) 0 = some (0 ≤ cs.length, .fptr (cs.drop 0)) := fieldAddr_fptr (n := 0) rfl cs
@[go_sem high] theorem fv_96_0 (cs : List AV) : aField Tryd.prog 96 (.agg cs) 0 = aPart Tryd.prog 5 cs 0 := field_agg rfl cs
@[go_sem] theorem fld_96_1 : fldOf Tryd.prog 96 1 = some (1, 1) := rfl
@[go_sem high] theorem fa_96_1 (id g i c : Nat) : aFieldAddr Tryd.prog 96 (.ptr id g i c) 1 = some (True, .ptr id g i (c + 1)) := fieldAddr_ptr (n := 0) rfl id g i c
@[go_sem high] theorem ff_96_1 (cs : List AV) : aFieldAddr Tryd.prog 96 (.fptr cs) 1 = some (1 ≤ cs.length, .fptr (cs.drop 1)) := fieldAddr_fptr (n := 0) rfl cs
@[go_sem high] theorem fv_96_1 (cs : List AV) : aField Tryd.prog 96 (.agg cs) 1 = aPart Tryd.prog 5 cs 1 := field_agg rfl cs
end Go.Almanac
