/- The types, as equations (written by types.py). -/
import Derived.Test.YtkkckfnkejijdaaDoorProg
import Derived.Test.YtkkckfnkejijdaaDoorM2
/- The types, as equations (written by types.py). -/
namespace Go.Almanac
open Go.RowKit Go.Proofs Go.Abs
set_option maxRecDepth 1000000

@[go_sem] theorem aggT_0 : aggT Tryd.prog 0 = some false := rfl
@[go_sem] theorem tsz_0 : tsz Tryd.prog 0 = some 1 := rfl
@[go_sem] theorem hasZero_0 : hasZero Tryd.prog 0 = some 1 := rfl
@[go_sem] theorem tby_0 : tby Tryd.prog 0 = some 0 := rfl
@[go_sem] theorem zro_0 : zeroC Tryd.prog 0 = some [Abs.AV.tup []] := rfl
@[go_sem] theorem aggT_1 : aggT Tryd.prog 1 = some false := rfl
@[go_sem] theorem tsz_1 : tsz Tryd.prog 1 = some 1 := rfl
@[go_sem] theorem hasZero_1 : hasZero Tryd.prog 1 = some 1 := rfl
@[go_sem] theorem tby_1 : tby Tryd.prog 1 = some 8 := rfl
@[go_sem] theorem zro_1 : zeroC Tryd.prog 1 = some [Abs.AV.nilf] := rfl
@[go_sem] theorem und_2 : Tryd.prog.underlying 2 = some (.int .i64) := rfl
@[go_sem] theorem aggT_2 : aggT Tryd.prog 2 = some false := rfl
@[go_sem] theorem tsz_2 : tsz Tryd.prog 2 = some 1 := rfl
@[go_sem] theorem hasZero_2 : hasZero Tryd.prog 2 = some 1 := rfl
@[go_sem] theorem tby_2 : tby Tryd.prog 2 = some 8 := rfl
@[go_sem] theorem zro_2 : zeroC Tryd.prog 2 = some [Abs.AV.int IntKind.i64 0] := rfl
@[go_sem] theorem und_3 : Tryd.prog.underlying 3 = some (.int .i64) := rfl
@[go_sem] theorem aggT_3 : aggT Tryd.prog 3 = some false := rfl
@[go_sem] theorem tsz_3 : tsz Tryd.prog 3 = some 1 := rfl
@[go_sem] theorem hasZero_3 : hasZero Tryd.prog 3 = some 1 := rfl
@[go_sem] theorem tby_3 : tby Tryd.prog 3 = some 8 := rfl
@[go_sem] theorem zro_3 : zeroC Tryd.prog 3 = some [Abs.AV.int IntKind.i64 0] := rfl
@[go_sem] theorem und_4 : Tryd.prog.underlying 4 = some (.bool) := rfl
@[go_sem] theorem aggT_4 : aggT Tryd.prog 4 = some false := rfl
@[go_sem] theorem tsz_4 : tsz Tryd.prog 4 = some 1 := rfl
@[go_sem] theorem hasZero_4 : hasZero Tryd.prog 4 = some 1 := rfl
@[go_sem] theorem tby_4 : tby Tryd.prog 4 = some 1 := rfl
@[go_sem] theorem zro_4 : zeroC Tryd.prog 4 = some [Abs.AV.bool false] := rfl
@[go_sem] theorem und_5 : Tryd.prog.underlying 5 = some (.int .u8) := rfl
@[go_sem] theorem aggT_5 : aggT Tryd.prog 5 = some false := rfl
@[go_sem] theorem tsz_5 : tsz Tryd.prog 5 = some 1 := rfl
@[go_sem] theorem hasZero_5 : hasZero Tryd.prog 5 = some 1 := rfl
@[go_sem] theorem tby_5 : tby Tryd.prog 5 = some 1 := rfl
@[go_sem] theorem zro_5 : zeroC Tryd.prog 5 = some [Abs.AV.int IntKind.u8 0] := rfl
@[go_sem] theorem und_9 : Tryd.prog.underlying 9 = some (.string) := rfl
@[go_sem] theorem aggT_9 : aggT Tryd.prog 9 = some false := rfl
@[go_sem] theorem tsz_9 : tsz Tryd.prog 9 = some 1 := rfl
@[go_sem] theorem hasZero_9 : hasZero Tryd.prog 9 = some 1 := rfl
@[go_sem] theorem tby_9 : tby Tryd.prog 9 = some 16 := rfl
@[go_sem] theorem zro_9 : zeroC Tryd.prog 9 = some [Abs.AV.str []] := rfl
@[go_sem] theorem aggT_20 : aggT Tryd.prog 20 = some false := rfl
@[go_sem] theorem tsz_20 : tsz Tryd.prog 20 = some 1 := rfl
@[go_sem] theorem hasZero_20 : hasZero Tryd.prog 20 = some 1 := rfl
@[go_sem] theorem tby_20 : tby Tryd.prog 20 = some 16 := rfl
@[go_sem] theorem zro_20 : zeroC Tryd.prog 20 = some [Abs.AV.nili] := rfl
@[go_sem] theorem und_21 : Tryd.prog.underlying 21 = some (.int .i32) := rfl
@[go_sem] theorem aggT_21 : aggT Tryd.prog 21 = some false := rfl
@[go_sem] theorem tsz_21 : tsz Tryd.prog 21 = some 1 := rfl
@[go_sem] theorem hasZero_21 : hasZero Tryd.prog 21 = some 1 := rfl
@[go_sem] theorem tby_21 : tby Tryd.prog 21 = some 4 := rfl
@[go_sem] theorem zro_21 : zeroC Tryd.prog 21 = some [Abs.AV.int IntKind.i32 0] := rfl
@[go_sem] theorem und_22 : Tryd.prog.underlying 22 = some (.slice 51) := rfl
@[go_sem] theorem aggT_22 : aggT Tryd.prog 22 = some false := rfl
@[go_sem] theorem tsz_22 : tsz Tryd.prog 22 = some 1 := rfl
@[go_sem] theorem hasZero_22 : hasZero Tryd.prog 22 = some 1 := rfl
@[go_sem] theorem tby_22 : tby Tryd.prog 22 = some 24 := rfl
@[go_sem] theorem zro_22 : zeroC Tryd.prog 22 = some [Abs.AV.nils] := rfl
@[go_sem] theorem aggT_24 : aggT Tryd.prog 24 = some true := rfl
@[go_sem] theorem tsz_24 : tsz Tryd.prog 24 = some 3 := rfl
@[go_sem] theorem hasZero_24 : hasZero Tryd.prog 24 = some 3 := rfl
@[go_sem] theorem tby_24 : tby Tryd.prog 24 = some 56 := rfl
@[go_sem] theorem szs_24 : szsOf Tryd.prog 24 = true := rfl
@[go_sem] theorem zro_24 : zeroC Tryd.prog 24 = some [Abs.AV.str [], Abs.AV.nils, Abs.AV.str []] := rfl
@[go_sem] theorem und_25 : Tryd.prog.underlying 25 = some (.int .i64) := rfl
@[go_sem] theorem aggT_25 : aggT Tryd.prog 25 = some false := rfl
@[go_sem] theorem tsz_25 : tsz Tryd.prog 25 = some 1 := rfl
@[go_sem] theorem hasZero_25 : hasZero Tryd.prog 25 = some 1 := rfl
@[go_sem] theorem tby_25 : tby Tryd.prog 25 = some 8 := rfl
@[go_sem] theorem zro_25 : zeroC Tryd.prog 25 = some [Abs.AV.int IntKind.i64 0] := rfl
@[go_sem] theorem aggT_26 : aggT Tryd.prog 26 = some false := rfl
@[go_sem] theorem tsz_26 : tsz Tryd.prog 26 = some 1 := rfl
@[go_sem] theorem hasZero_26 : hasZero Tryd.prog 26 = some 1 := rfl
@[go_sem] theorem tby_26 : tby Tryd.prog 26 = some 0 := rfl
@[go_sem] theorem zro_26 : zeroC Tryd.prog 26 = some [Abs.AV.junk] := rfl
@[go_sem] theorem aggT_28 : aggT Tryd.prog 28 = some false := rfl
@[go_sem] theorem tsz_28 : tsz Tryd.prog 28 = some 1 := rfl
@[go_sem] theorem hasZero_28 : hasZero Tryd.prog 28 = some 1 := rfl
@[go_sem] theorem tby_28 : tby Tryd.prog 28 = some 0 := rfl
@[go_sem] theorem zro_28 : zeroC Tryd.prog 28 = some [Abs.AV.junk] := rfl
@[go_sem] theorem aggT_32 : aggT Tryd.prog 32 = some false := rfl
@[go_sem] theorem tsz_32 : tsz Tryd.prog 32 = some 1 := rfl
@[go_sem] theorem hasZero_32 : hasZero Tryd.prog 32 = some 1 := rfl
@[go_sem] theorem tby_32 : tby Tryd.prog 32 = some 8 := rfl
@[go_sem] theorem zro_32 : zeroC Tryd.prog 32 = some [Abs.AV.nilf] := rfl
@[go_sem] theorem aggT_33 : aggT Tryd.prog 33 = some false := rfl
@[go_sem] theorem tsz_33 : tsz Tryd.prog 33 = some 1 := rfl
@[go_sem] theorem hasZero_33 : hasZero Tryd.prog 33 = some 1 := rfl
@[go_sem] theorem tby_33 : tby Tryd.prog 33 = some 0 := rfl
@[go_sem] theorem zro_33 : zeroC Tryd.prog 33 = some [Abs.AV.junk] := rfl
@[go_sem] theorem und_38 : Tryd.prog.underlying 38 = some (.slice 9) := rfl
@[go_sem] theorem aggT_38 : aggT Tryd.prog 38 = some false := rfl
@[go_sem] theorem tsz_38 : tsz Tryd.prog 38 = some 1 := rfl
@[go_sem] theorem hasZero_38 : hasZero Tryd.prog 38 = some 1 := rfl
@[go_sem] theorem tby_38 : tby Tryd.prog 38 = some 24 := rfl
@[go_sem] theorem zro_38 : zeroC Tryd.prog 38 = some [Abs.AV.nils] := rfl
@[go_sem] theorem aggT_41 : aggT Tryd.prog 41 = some false := rfl
@[go_sem] theorem tsz_41 : tsz Tryd.prog 41 = some 1 := rfl
@[go_sem] theorem hasZero_41 : hasZero Tryd.prog 41 = some 1 := rfl
@[go_sem] theorem tby_41 : tby Tryd.prog 41 = some 0 := rfl
@[go_sem] theorem zro_41 : zeroC Tryd.prog 41 = some [Abs.AV.junk] := rfl
@[go_sem] theorem und_45 : Tryd.prog.underlying 45 = some (.pointer 47) := rfl
@[go_sem] theorem aggT_45 : aggT Tryd.prog 45 = some false := rfl
@[go_sem] theorem tsz_45 : tsz Tryd.prog 45 = some 1 := rfl
@[go_sem] theorem hasZero_45 : hasZero Tryd.prog 45 = some 1 := rfl
@[go_sem] theorem tby_45 : tby Tryd.prog 45 = some 8 := rfl
@[go_sem] theorem zro_45 : zeroC Tryd.prog 45 = some [Abs.AV.nilp] := rfl
@[go_sem] theorem aggT_47 : aggT Tryd.prog 47 = some true := rfl
@[go_sem] theorem tsz_47 : tsz Tryd.prog 47 = some 2 := rfl
@[go_sem] theorem hasZero_47 : hasZero Tryd.prog 47 = some 2 := rfl
@[go_sem] theorem tby_47 : tby Tryd.prog 47 = some 24 := rfl
@[go_sem] theorem szs_47 : szsOf Tryd.prog 47 = true := rfl
@[go_sem] theorem zro_47 : zeroC Tryd.prog 47 = some [Abs.AV.str [], Abs.AV.int IntKind.i64 0] := rfl
@[go_sem] theorem aggT_51 : aggT Tryd.prog 51 = some true := rfl
@[go_sem] theorem tsz_51 : tsz Tryd.prog 51 = some 2 := rfl
@[go_sem] theorem hasZero_51 : hasZero Tryd.prog 51 = some 2 := rfl
@[go_sem] theorem tby_51 : tby Tryd.prog 51 = some 40 := rfl
@[go_sem] theorem szs_51 : szsOf Tryd.prog 51 = true := rfl
@[go_sem] theorem zro_51 : zeroC Tryd.prog 51 = some [Abs.AV.str [], Abs.AV.nils] := rfl
@[go_sem] theorem und_55 : Tryd.prog.underlying 55 = some (.pointer 57) := rfl
@[go_sem] theorem aggT_55 : aggT Tryd.prog 55 = some false := rfl
@[go_sem] theorem tsz_55 : tsz Tryd.prog 55 = some 1 := rfl
@[go_sem] theorem hasZero_55 : hasZero Tryd.prog 55 = some 1 := rfl
@[go_sem] theorem tby_55 : tby Tryd.prog 55 = some 8 := rfl
@[go_sem] theorem zro_55 : zeroC Tryd.prog 55 = some [Abs.AV.nilp] := rfl
@[go_sem] theorem aggT_57 : aggT Tryd.prog 57 = some true := rfl
@[go_sem] theorem tsz_57 : tsz Tryd.prog 57 = some 3 := rfl
@[go_sem] theorem hasZero_57 : hasZero Tryd.prog 57 = some 3 := rfl
@[go_sem] theorem tby_57 : tby Tryd.prog 57 = some 32 := rfl
@[go_sem] theorem szs_57 : szsOf Tryd.prog 57 = true := rfl
@[go_sem] theorem zro_57 : zeroC Tryd.prog 57 = some [Abs.AV.str [], Abs.AV.int IntKind.i64 0, Abs.AV.int IntKind.i64 0] := rfl
@[go_sem] theorem aggT_58 : aggT Tryd.prog 58 = some false := rfl
@[go_sem] theorem tsz_58 : tsz Tryd.prog 58 = some 1 := rfl
@[go_sem] theorem hasZero_58 : hasZero Tryd.prog 58 = some 1 := rfl
@[go_sem] theorem tby_58 : tby Tryd.prog 58 = some 8 := rfl
@[go_sem] theorem zro_58 : zeroC Tryd.prog 58 = some [Abs.AV.nilf] := rfl
@[go_sem] theorem aggT_61 : aggT Tryd.prog 61 = some false := rfl
@[go_sem] theorem tsz_61 : tsz Tryd.prog 61 = some 1 := rfl
@[go_sem] theorem hasZero_61 : hasZero Tryd.prog 61 = some 1 := rfl
@[go_sem] theorem tby_61 : tby Tryd.prog 61 = some 8 := rfl
@[go_sem] theorem zro_61 : zeroC Tryd.prog 61 = some [Abs.AV.nilf] := rfl
@[go_sem] theorem aggT_66 : aggT Tryd.prog 66 = some false := rfl
@[go_sem] theorem tsz_66 : tsz Tryd.prog 66 = some 1 := rfl
@[go_sem] theorem hasZero_66 : hasZero Tryd.prog 66 = some 1 := rfl
@[go_sem] theorem tby_66 : tby Tryd.prog 66 = some 8 := rfl
@[go_sem] theorem zro_66 : zeroC Tryd.prog 66 = some [Abs.AV.nilf] := rfl
@[go_sem] theorem und_67 : Tryd.prog.underlying 67 = some (.pointer 70) := rfl
@[go_sem] theorem aggT_67 : aggT Tryd.prog 67 = some false := rfl
@[go_sem] theorem tsz_67 : tsz Tryd.prog 67 = some 1 := rfl
@[go_sem] theorem hasZero_67 : hasZero Tryd.prog 67 = some 1 := rfl
@[go_sem] theorem tby_67 : tby Tryd.prog 67 = some 8 := rfl
@[go_sem] theorem zro_67 : zeroC Tryd.prog 67 = some [Abs.AV.nilp] := rfl
@[go_sem] theorem und_68 : Tryd.prog.underlying 68 = some (.slice 5) := rfl
@[go_sem] theorem aggT_68 : aggT Tryd.prog 68 = some false := rfl
@[go_sem] theorem tsz_68 : tsz Tryd.prog 68 = some 1 := rfl
@[go_sem] theorem hasZero_68 : hasZero Tryd.prog 68 = some 1 := rfl
@[go_sem] theorem tby_68 : tby Tryd.prog 68 = some 24 := rfl
@[go_sem] theorem zro_68 : zeroC Tryd.prog 68 = some [Abs.AV.nils] := rfl
@[go_sem] theorem aggT_70 : aggT Tryd.prog 70 = some true := rfl
@[go_sem] theorem tsz_70 : tsz Tryd.prog 70 = some 2 := rfl
@[go_sem] theorem hasZero_70 : hasZero Tryd.prog 70 = some 2 := rfl
@[go_sem] theorem tby_70 : tby Tryd.prog 70 = some 32 := rfl
@[go_sem] theorem szs_70 : szsOf Tryd.prog 70 = true := rfl
@[go_sem] theorem zro_70 : zeroC Tryd.prog 70 = some [Abs.AV.nilp, Abs.AV.nils] := rfl
@[go_sem] theorem aggT_71 : aggT Tryd.prog 71 = some false := rfl
@[go_sem] theorem tsz_71 : tsz Tryd.prog 71 = some 1 := rfl
@[go_sem] theorem hasZero_71 : hasZero Tryd.prog 71 = some 1 := rfl
@[go_sem] theorem tby_71 : tby Tryd.prog 71 = some 8 := rfl
@[go_sem] theorem zro_71 : zeroC Tryd.prog 71 = some [Abs.AV.nilf] := rfl
@[go_sem] theorem aggT_72 : aggT Tryd.prog 72 = some false := rfl
@[go_sem] theorem tsz_72 : tsz Tryd.prog 72 = some 1 := rfl
@[go_sem] theorem hasZero_72 : hasZero Tryd.prog 72 = some 1 := rfl
@[go_sem] theorem tby_72 : tby Tryd.prog 72 = some 8 := rfl
@[go_sem] theorem zro_72 : zeroC Tryd.prog 72 = some [Abs.AV.nilf] := rfl
@[go_sem] theorem aggT_75 : aggT Tryd.prog 75 = some false := rfl
@[go_sem] theorem tsz_75 : tsz Tryd.prog 75 = some 1 := rfl
@[go_sem] theorem hasZero_75 : hasZero Tryd.prog 75 = some 1 := rfl
@[go_sem] theorem tby_75 : tby Tryd.prog 75 = some 16 := rfl
@[go_sem] theorem zro_75 : zeroC Tryd.prog 75 = some [Abs.AV.nili] := rfl
@[go_sem] theorem aggT_76 : aggT Tryd.prog 76 = some false := rfl
@[go_sem] theorem tsz_76 : tsz Tryd.prog 76 = some 1 := rfl
@[go_sem] theorem hasZero_76 : hasZero Tryd.prog 76 = some 1 := rfl
@[go_sem] theorem tby_76 : tby Tryd.prog 76 = some 0 := rfl
@[go_sem] theorem zro_76 : zeroC Tryd.prog 76 = some [Abs.AV.junk] := rfl
@[go_sem] theorem aggT_78 : aggT Tryd.prog 78 = some false := rfl
@[go_sem] theorem tsz_78 : tsz Tryd.prog 78 = some 1 := rfl
@[go_sem] theorem hasZero_78 : hasZero Tryd.prog 78 = some 1 := rfl
@[go_sem] theorem tby_78 : tby Tryd.prog 78 = some 0 := rfl
@[go_sem] theorem zro_78 : zeroC Tryd.prog 78 = some [Abs.AV.junk] := rfl
@[go_sem] theorem und_86 : Tryd.prog.underlying 86 = some (.pointer 5) := rfl
@[go_sem] theorem aggT_86 : aggT Tryd.prog 86 = some false := rfl
@[go_sem] theorem tsz_86 : tsz Tryd.prog 86 = some 1 := rfl
@[go_sem] theorem hasZero_86 : hasZero Tryd.prog 86 = some 1 := rfl
@[go_sem] theorem tby_86 : tby Tryd.prog 86 = some 8 := rfl
@[go_sem] theorem zro_86 : zeroC Tryd.prog 86 = some [Abs.AV.nilp] := rfl
@[go_sem] theorem aggT_87 : aggT Tryd.prog 87 = some false := rfl
@[go_sem] theorem tsz_87 : tsz Tryd.prog 87 = some 1 := rfl
@[go_sem] theorem hasZero_87 : hasZero Tryd.prog 87 = some 1 := rfl
@[go_sem] theorem tby_87 : tby Tryd.prog 87 = some 0 := rfl
@[go_sem] theorem zro_87 : zeroC Tryd.prog 87 = some [Abs.AV.junk] := rfl
@[go_sem] theorem und_91 : Tryd.prog.underlying 91 = some (.unsafePointer) := rfl
@[go_sem] theorem aggT_91 : aggT Tryd.prog 91 = some false := rfl
@[go_sem] theorem tsz_91 : tsz Tryd.prog 91 = some 1 := rfl
@[go_sem] theorem hasZero_91 : hasZero Tryd.prog 91 = some 1 := rfl
@[go_sem] theorem tby_91 : tby Tryd.prog 91 = some 8 := rfl
@[go_sem] theorem zro_91 : zeroC Tryd.prog 91 = some [Abs.AV.nilp] := rfl
@[go_sem] theorem aggT_93 : aggT Tryd.prog 93 = some true := rfl
@[go_sem] theorem tsz_93 : tsz Tryd.prog 93 = some 256 := rfl
@[go_sem] theorem hasZero_93 : hasZero Tryd.prog 93 = some 256 := rfl
@[go_sem] theorem tby_93 : tby Tryd.prog 93 = some 256 := rfl
@[go_sem] theorem und_94 : Tryd.prog.underlying 94 = some (.int .u64) := rfl
@[go_sem] theorem aggT_94 : aggT Tryd.prog 94 = some false := rfl
@[go_sem] theorem tsz_94 : tsz Tryd.prog 94 = some 1 := rfl
@[go_sem] theorem hasZero_94 : hasZero Tryd.prog 94 = some 1 := rfl
@[go_sem] theorem tby_94 : tby Tryd.prog 94 = some 8 := rfl
@[go_sem] theorem zro_94 : zeroC Tryd.prog 94 = some [Abs.AV.int IntKind.u64 0] := rfl
@[go_sem] theorem aggT_96 : aggT Tryd.prog 96 = some true := rfl
@[go_sem] theorem tsz_96 : tsz Tryd.prog 96 = some 2 := rfl
@[go_sem] theorem hasZero_96 : hasZero Tryd.prog 96 = some 2 := rfl
@[go_sem] theorem tby_96 : tby Tryd.prog 96 = some 2 := rfl
@[go_sem] theorem szs_96 : szsOf Tryd.prog 96 = true := rfl
@[go_sem] theorem zro_96 : zeroC Tryd.prog 96 = some [Abs.AV.int IntKind.u8 0, Abs.AV.int IntKind.u8 0] := rfl
@[go_sem] theorem aggT_97 : aggT Tryd.prog 97 = some true := rfl
@[go_sem] theorem tsz_97 : tsz Tryd.prog 97 = some 32 := rfl
@[go_sem] theorem hasZero_97 : hasZero Tryd.prog 97 = some 32 := rfl
@[go_sem] theorem tby_97 : tby Tryd.prog 97 = some 32 := rfl
@[go_sem] theorem fld_24_0 : fldOf Tryd.prog 24 0 = some (0, 1) := rfl
@[go_sem high] theorem fa_24_0 (id g i c : Nat) : aFieldAddr Tryd.prog 24 (.ptr id g i c) 0 = some (True, .ptr id g i (c + 0)) := fieldAddr_ptr (n := 0) rfl id g i c
@[go_sem high] theorem ff_24_0 (cs : List AV) : aFieldAddr Tryd.prog 24 (.fptr cs) 0 = some (0 ≤ cs.length, .fptr (cs.drop 0)) := fieldAddr_fptr (n := 0) rfl cs
@[go_sem high] theorem fv_24_0 (cs : List AV) : aField Tryd.prog 24 (.agg cs) 0 = aPart Tryd.prog 9 cs 0 := field_agg rfl cs
@[go_sem] theorem fld_24_1 : fldOf Tryd.prog 24 1 = some (1, 1) := rfl
@[go_sem high] theorem fa_24_1 (id g i c : Nat) : aFieldAddr Tryd.prog 24 (.ptr id g i c) 1 = some (True, .ptr id g i (c + 1)) := fieldAddr_ptr (n := 0) rfl id g i c
@[go_sem high] theorem ff_24_1 (cs : List AV) : aFieldAddr Tryd.prog 24 (.fptr cs) 1 = some (1 ≤ cs.length, .fptr (cs.drop 1)) := fieldAddr_fptr (n := 0) rfl cs
@[go_sem high] theorem fv_24_1 (cs : List AV) : aField Tryd.prog 24 (.agg cs) 1 = aPart Tryd.prog 22 cs 1 := field_agg rfl cs
@[go_sem] theorem fld_24_2 : fldOf Tryd.prog 24 2 = some (2, 1) := rfl
@[go_sem high] theorem fa_24_2 (id g i c : Nat) : aFieldAddr Tryd.prog 24 (.ptr id g i c) 2 = some (True, .ptr id g i (c + 2)) := fieldAddr_ptr (n := 0) rfl id g i c
@[go_sem high] theorem ff_24_2 (cs : List AV) : aFieldAddr Tryd.prog 24 (.fptr cs) 2 = some (2 ≤ cs.length, .fptr (cs.drop 2)) := fieldAddr_fptr (n := 0) rfl cs
@[go_sem high] theorem fv_24_2 (cs : List AV) : aField Tryd.prog 24 (.agg cs) 2 = aPart Tryd.prog 9 cs 2 := field_agg rfl cs
@[go_sem] theorem fld_47_0 : fldOf Tryd.prog 47 0 = some (0, 1) := rfl
@[go_sem high] theorem fa_47_0 (id g i c : Nat) : aFieldAddr Tryd.prog 47 (.ptr id g i c) 0 = some (True, .ptr id g i (c + 0)) := fieldAddr_ptr (n := 0) rfl id g i c
@[go_sem high] theorem ff_47_0 (cs : List AV) : aFieldAddr Tryd.prog 47 (.fptr cs) 0 = some (0 ≤ cs.length, .fptr (cs.drop 0)) := fieldAddr_fptr (n := 0) rfl cs
@[go_sem high] theorem fv_47_0 (cs : List AV) : aField Tryd.prog 47 (.agg cs) 0 = aPart Tryd.prog 9 cs 0 := field_agg rfl cs
@[go_sem] theorem fld_47_1 : fldOf Tryd.prog 47 1 = some (1, 1) := rfl
@[go_sem high] theorem fa_47_1 (id g i c : Nat) : aFieldAddr Tryd.prog 47 (.ptr id g i c) 1 = some (True, .ptr id g i (c + 1)) := fieldAddr_ptr (n := 0) rfl id g i c
@[go_sem high] theorem ff_47_1 (cs : List AV) : aFieldAddr Tryd.prog 47 (.fptr cs) 1 = some (1 ≤ cs.length, .fptr (cs.drop 1)) := fieldAddr_fptr (n := 0) rfl cs
@[go_sem high] theorem fv_47_1 (cs : List AV) : aField Tryd.prog 47 (.agg cs) 1 = aPart Tryd.prog 25 cs 1 := field_agg rfl cs
@[go_sem] theorem fld_51_0 : fldOf Tryd.prog 51 0 = some (0, 1) := rfl
@[go_sem high] theorem fa_51_0 (id g i c : Nat) : aFieldAddr Tryd.prog 51 (.ptr id g i c) 0 = some (True, .ptr id g i (c + 0)) := fieldAddr_ptr (n := 0) rfl id g i c
@[go_sem high] theorem ff_51_0 (cs : List AV) : aFieldAddr Tryd.prog 51 (.fptr cs) 0 = some (0 ≤ cs.length, .fptr (cs.drop 0)) := fieldAddr_fptr (n := 0) rfl cs
@[go_sem high] theorem fv_51_0 (cs : List AV) : aField Tryd.prog 51 (.agg cs) 0 = aPart Tryd.prog 9 cs 0 := field_agg rfl cs
@[go_sem] theorem fld_51_1 : fldOf Tryd.prog 51 1 = some (1, 1) := rfl
@[go_sem high] theorem fa_51_1 (id g i c : Nat) : aFieldAddr Tryd.prog 51 (.ptr id g i c) 1 = some (True, .ptr id g i (c + 1)) := fieldAddr_ptr (n := 0) rfl id g i c
@[go_sem high] theorem ff_51_1 (cs : List AV) : aFieldAddr Tryd.prog 51 (.fptr cs) 1 = some (1 ≤ cs.length, .fptr (cs.drop 1)) := fieldAddr_fptr (n := 0) rfl cs
@[go_sem high] theorem fv_51_1 (cs : List AV) : aField Tryd.prog 51 (.agg cs) 1 = aPart Tryd.prog 38 cs 1 := field_agg rfl cs
@[go_sem] theorem fld_57_0 : fldOf Tryd.prog 57 0 = some (0, 1) := rfl
@[go_sem high] theorem fa_57_0 (id g i c : Nat) : aFieldAddr Tryd.prog 57 (.ptr id g i c) 0 = some (True, .ptr id g i (c + 0)) := fieldAddr_ptr (n := 0) rfl id g i c
@[go_sem high] theorem ff_57_0 (cs : List AV) : aFieldAddr Tryd.prog 57 (.fptr cs) 0 = some (0 ≤ cs.length, .fptr (cs.drop 0)) := fieldAddr_fptr (n := 0) rfl cs
@[go_sem high] theorem fv_57_0 (cs : List AV) : aField Tryd.prog 57 (.agg cs) 0 = aPart Tryd.prog 9 cs 0 := field_agg rfl cs
@[go_sem] theorem fld_57_1 : fldOf Tryd.prog 57 1 = some (1, 1) := rfl
@[go_sem high] theorem fa_57_1 (id g i c : Nat) : aFieldAddr Tryd.prog 57 (.ptr id g i c) 1 = some (True, .ptr id g i (c + 1)) := fieldAddr_ptr (n := 0) rfl id g i c
@[go_sem high] theorem ff_57_1 (cs : List AV) : aFieldAddr Tryd.prog 57 (.fptr cs) 1 = some (1 ≤ cs.length, .fptr (cs.drop 1)) := fieldAddr_fptr (n := 0) rfl cs
@[go_sem high] theorem fv_57_1 (cs : List AV) : aField Tryd.prog 57 (.agg cs) 1 = aPart Tryd.prog 3 cs 1 := field_agg rfl cs
@[go_sem] theorem fld_57_2 : fldOf Tryd.prog 57 2 = some (2, 1) := rfl
@[go_sem high] theorem fa_57_2 (id g i c : Nat) : aFieldAddr Tryd.prog 57 (.ptr id g i c) 2 = some (True, .ptr id g i (c + 2)) := fieldAddr_ptr (n := 0) rfl id g i c
@[go_sem high] theorem ff_57_2 (cs : List AV) : aFieldAddr Tryd.prog 57 (.fptr cs) 2 = some (2 ≤ cs.length, .fptr (cs.drop 2)) := fieldAddr_fptr (n := 0) rfl cs
@[go_sem high] theorem fv_57_2 (cs : List AV) : aField Tryd.prog 57 (.agg cs) 2 = aPart Tryd.prog 3 cs 2 := field_agg rfl cs
@[go_sem] theorem fld_70_0 : fldOf Tryd.prog 70 0 = some (0, 1) := rfl
@[go_sem high] theorem fa_70_0 (id g i c : Nat) : aFieldAddr Tryd.prog 70 (.ptr id g i c) 0 = some (True, .ptr id g i (c + 0)) := fieldAddr_ptr (n := 0) rfl id g i c
@[go_sem high] theorem ff_70_0 (cs : List AV) : aFieldAddr Tryd.prog 70 (.fptr cs) 0 = some (0 ≤ cs.length, .fptr (cs.drop 0)) := fieldAddr_fptr (n := 0) rfl cs
@[go_sem high] theorem fv_70_0 (cs : List AV) : aField Tryd.prog 70 (.agg cs) 0 = aPart Tryd.prog 67 cs 0 := field_agg rfl cs
@[go_sem] theorem fld_70_1 : fldOf Tryd.prog 70 1 = some (1, 1) := rfl
@[go_sem high] theorem fa_70_1 (id g i c : Nat) : aFieldAddr Tryd.prog 70 (.ptr id g i c) 1 = some (True, .ptr id g i (c + 1)) := fieldAddr_ptr (n := 0) rfl id g i c
@[go_sem high] theorem ff_70_1 (cs : List AV) : aFieldAddr Tryd.prog 70 (.fptr cs) 1 = some (1 ≤ cs.length, .fptr (cs.drop 1)) := fieldAddr_fptr (n := 0) rfl cs
@[go_sem high] theorem fv_70_1 (cs : List AV) : aField Tryd.prog 70 (.agg cs) 1 = aPart Tryd.prog 68 cs 1 := field_agg rfl cs
@[go_sem] theorem fld_96_0 : fldOf Tryd.prog 96 0 = some (0, 1) := rfl
@[go_sem high] theorem fa_96_0 (id g i c : Nat) : aFieldAddr Tryd.prog 96 (.ptr id g i c) 0 = some (True, .ptr id g i (c + 0)) := fieldAddr_ptr (n := 0) rfl id g i c
@[go_sem high] theorem ff_96_0 (cs : List AV) : aFieldAddr Tryd.prog 96 (.fptr cs) 0 = some (0 ≤ cs.length, .fptr (cs.drop 0)) := fieldAddr_fptr (n := 0) rfl cs
@[go_sem high] theorem fv_96_0 (cs : List AV) : aField Tryd.prog 96 (.agg cs) 0 = aPart Tryd.prog 5 cs 0 := field_agg rfl cs
@[go_sem] theorem fld_96_1 : fldOf Tryd.prog 96 1 = some (1, 1) := rfl
@[go_sem high] theorem fa_96_1 (id g i c : Nat) : aFieldAddr Tryd.prog 96 (.ptr id g i c) 1 = some (True, .ptr id g i (c + 1)) := fieldAddr_ptr (n := 0) rfl id g i c
@[go_sem high] theorem ff_96_1 (cs : List AV) : aFieldAddr Tryd.prog 96 (.fptr cs) 1 = some (1 ≤ cs.length, .fptr (cs.drop 1)) := fieldAddr_fptr (n := 0) rfl cs
@[go_sem high] theorem fv_96_1 (cs : List AV) : aField Tryd.prog 96 (.agg cs) 1 = aPart Tryd.prog 5 cs 1 := field_agg rfl cs
end Go.Almanac
