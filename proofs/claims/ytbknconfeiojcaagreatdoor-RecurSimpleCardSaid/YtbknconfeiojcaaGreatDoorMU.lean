/- The types, as equations (written by types.py). -/
import Derived.Test.YtbknconfeiojcaaGreatDoorProg
import Derived.Test.YtbknconfeiojcaaGreatDoorM2
/- The types, as equations (written by types.py). -/
namespace Go.Almanac
open Go.RowKit Go.Proofs Go.Abs
set_option maxRecDepth 1000000

@[go_sem] theorem aggT_0 : aggT Tryz.prog 0 = some false := rfl
@[go_sem] theorem tsz_0 : tsz Tryz.prog 0 = some 1 := rfl
@[go_sem] theorem hasZero_0 : hasZero Tryz.prog 0 = some 1 := rfl
@[go_sem] theorem tby_0 : tby Tryz.prog 0 = some 0 := rfl
@[go_sem] theorem zro_0 : zeroC Tryz.prog 0 = some [Abs.AV.tup []] := rfl
@[go_sem] theorem und_2 : Tryz.prog.underlying 2 = some (.int .i64) := rfl
@[go_sem] theorem aggT_2 : aggT Tryz.prog 2 = some false := rfl
@[go_sem] theorem tsz_2 : tsz Tryz.prog 2 = some 1 := rfl
@[go_sem] theorem hasZero_2 : hasZero Tryz.prog 2 = some 1 := rfl
@[go_sem] theorem tby_2 : tby Tryz.prog 2 = some 8 := rfl
@[go_sem] theorem zro_2 : zeroC Tryz.prog 2 = some [Abs.AV.int IntKind.i64 0] := rfl
@[go_sem] theorem und_3 : Tryz.prog.underlying 3 = some (.int .i64) := rfl
@[go_sem] theorem aggT_3 : aggT Tryz.prog 3 = some false := rfl
@[go_sem] theorem tsz_3 : tsz Tryz.prog 3 = some 1 := rfl
@[go_sem] theorem hasZero_3 : hasZero Tryz.prog 3 = some 1 := rfl
@[go_sem] theorem tby_3 : tby Tryz.prog 3 = some 8 := rfl
@[go_sem] theorem zro_3 : zeroC Tryz.prog 3 = some [Abs.AV.int IntKind.i64 0] := rfl
@[go_sem] theorem und_4 : Tryz.prog.underlying 4 = some (.bool) := rfl
@[go_sem] theorem aggT_4 : aggT Tryz.prog 4 = some false := rfl
@[go_sem] theorem tsz_4 : tsz Tryz.prog 4 = some 1 := rfl
@[go_sem] theorem hasZero_4 : hasZero Tryz.prog 4 = some 1 := rfl
@[go_sem] theorem tby_4 : tby Tryz.prog 4 = some 1 := rfl
@[go_sem] theorem zro_4 : zeroC Tryz.prog 4 = some [Abs.AV.bool false] := rfl
@[go_sem] theorem und_5 : Tryz.prog.underlying 5 = some (.int .u8) := rfl
@[go_sem] theorem aggT_5 : aggT Tryz.prog 5 = some false := rfl
@[go_sem] theorem tsz_5 : tsz Tryz.prog 5 = some 1 := rfl
@[go_sem] theorem hasZero_5 : hasZero Tryz.prog 5 = some 1 := rfl
@[go_sem] theorem tby_5 : tby Tryz.prog 5 = some 1 := rfl
@[go_sem] theorem zro_5 : zeroC Tryz.prog 5 = some [Abs.AV.int IntKind.u8 0] := rfl
@[go_sem] theorem und_9 : Tryz.prog.underlying 9 = some (.string) := rfl
@[go_sem] theorem aggT_9 : aggT Tryz.prog 9 = some false := rfl
@[go_sem] theorem tsz_9 : tsz Tryz.prog 9 = some 1 := rfl
@[go_sem] theorem hasZero_9 : hasZero Tryz.prog 9 = some 1 := rfl
@[go_sem] theorem tby_9 : tby Tryz.prog 9 = some 16 := rfl
@[go_sem] theorem zro_9 : zeroC Tryz.prog 9 = some [Abs.AV.str []] := rfl
@[go_sem] theorem aggT_20 : aggT Tryz.prog 20 = some false := rfl
@[go_sem] theorem tsz_20 : tsz Tryz.prog 20 = some 1 := rfl
@[go_sem] theorem hasZero_20 : hasZero Tryz.prog 20 = some 1 := rfl
@[go_sem] theorem tby_20 : tby Tryz.prog 20 = some 16 := rfl
@[go_sem] theorem zro_20 : zeroC Tryz.prog 20 = some [Abs.AV.nili] := rfl
@[go_sem] theorem aggT_23 : aggT Tryz.prog 23 = some true := rfl
@[go_sem] theorem tsz_23 : tsz Tryz.prog 23 = some 3 := rfl
@[go_sem] theorem hasZero_23 : hasZero Tryz.prog 23 = some 3 := rfl
@[go_sem] theorem tby_23 : tby Tryz.prog 23 = some 16 := rfl
@[go_sem] theorem szs_23 : szsOf Tryz.prog 23 = true := rfl
@[go_sem] theorem zro_23 : zeroC Tryz.prog 23 = some [Abs.AV.int IntKind.i64 0, Abs.AV.bool false, Abs.AV.bool false] := rfl
@[go_sem] theorem und_24 : Tryz.prog.underlying 24 = some (.slice 3) := rfl
@[go_sem] theorem aggT_24 : aggT Tryz.prog 24 = some false := rfl
@[go_sem] theorem tsz_24 : tsz Tryz.prog 24 = some 1 := rfl
@[go_sem] theorem hasZero_24 : hasZero Tryz.prog 24 = some 1 := rfl
@[go_sem] theorem tby_24 : tby Tryz.prog 24 = some 24 := rfl
@[go_sem] theorem zro_24 : zeroC Tryz.prog 24 = some [Abs.AV.nils] := rfl
@[go_sem] theorem und_25 : Tryz.prog.underlying 25 = some (.slice 53) := rfl
@[go_sem] theorem aggT_25 : aggT Tryz.prog 25 = some false := rfl
@[go_sem] theorem tsz_25 : tsz Tryz.prog 25 = some 1 := rfl
@[go_sem] theorem hasZero_25 : hasZero Tryz.prog 25 = some 1 := rfl
@[go_sem] theorem tby_25 : tby Tryz.prog 25 = some 24 := rfl
@[go_sem] theorem zro_25 : zeroC Tryz.prog 25 = some [Abs.AV.nils] := rfl
@[go_sem] theorem aggT_27 : aggT Tryz.prog 27 = some true := rfl
@[go_sem] theorem tsz_27 : tsz Tryz.prog 27 = some 12 := rfl
@[go_sem] theorem hasZero_27 : hasZero Tryz.prog 27 = some 12 := rfl
@[go_sem] theorem tby_27 : tby Tryz.prog 27 = some 152 := rfl
@[go_sem] theorem szs_27 : szsOf Tryz.prog 27 = true := rfl
@[go_sem] theorem zro_27 : zeroC Tryz.prog 27 = some [Abs.AV.int IntKind.i64 0, Abs.AV.int IntKind.i64 0, Abs.AV.int IntKind.i64 0, Abs.AV.bool false, Abs.AV.int IntKind.i64 0, Abs.AV.bool false, Abs.AV.bool false, Abs.AV.nils, Abs.AV.nils, Abs.AV.nils, Abs.AV.nils, Abs.AV.int IntKind.i64 0] := rfl
@[go_sem] theorem und_28 : Tryz.prog.underlying 28 = some (.slice 2) := rfl
@[go_sem] theorem aggT_28 : aggT Tryz.prog 28 = some false := rfl
@[go_sem] theorem tsz_28 : tsz Tryz.prog 28 = some 1 := rfl
@[go_sem] theorem hasZero_28 : hasZero Tryz.prog 28 = some 1 := rfl
@[go_sem] theorem tby_28 : tby Tryz.prog 28 = some 24 := rfl
@[go_sem] theorem zro_28 : zeroC Tryz.prog 28 = some [Abs.AV.nils] := rfl
@[go_sem] theorem und_29 : Tryz.prog.underlying 29 = some (.int .i64) := rfl
@[go_sem] theorem aggT_29 : aggT Tryz.prog 29 = some false := rfl
@[go_sem] theorem tsz_29 : tsz Tryz.prog 29 = some 1 := rfl
@[go_sem] theorem hasZero_29 : hasZero Tryz.prog 29 = some 1 := rfl
@[go_sem] theorem tby_29 : tby Tryz.prog 29 = some 8 := rfl
@[go_sem] theorem zro_29 : zeroC Tryz.prog 29 = some [Abs.AV.int IntKind.i64 0] := rfl
@[go_sem] theorem aggT_30 : aggT Tryz.prog 30 = some false := rfl
@[go_sem] theorem tsz_30 : tsz Tryz.prog 30 = some 1 := rfl
@[go_sem] theorem hasZero_30 : hasZero Tryz.prog 30 = some 1 := rfl
@[go_sem] theorem tby_30 : tby Tryz.prog 30 = some 0 := rfl
@[go_sem] theorem zro_30 : zeroC Tryz.prog 30 = some [Abs.AV.junk] := rfl
@[go_sem] theorem aggT_32 : aggT Tryz.prog 32 = some false := rfl
@[go_sem] theorem tsz_32 : tsz Tryz.prog 32 = some 1 := rfl
@[go_sem] theorem hasZero_32 : hasZero Tryz.prog 32 = some 1 := rfl
@[go_sem] theorem tby_32 : tby Tryz.prog 32 = some 0 := rfl
@[go_sem] theorem zro_32 : zeroC Tryz.prog 32 = some [Abs.AV.junk] := rfl
@[go_sem] theorem aggT_34 : aggT Tryz.prog 34 = some false := rfl
@[go_sem] theorem tsz_34 : tsz Tryz.prog 34 = some 1 := rfl
@[go_sem] theorem hasZero_34 : hasZero Tryz.prog 34 = some 1 := rfl
@[go_sem] theorem tby_34 : tby Tryz.prog 34 = some 0 := rfl
@[go_sem] theorem zro_34 : zeroC Tryz.prog 34 = some [Abs.AV.junk] := rfl
@[go_sem] theorem aggT_37 : aggT Tryz.prog 37 = some false := rfl
@[go_sem] theorem tsz_37 : tsz Tryz.prog 37 = some 1 := rfl
@[go_sem] theorem hasZero_37 : hasZero Tryz.prog 37 = some 1 := rfl
@[go_sem] theorem tby_37 : tby Tryz.prog 37 = some 8 := rfl
@[go_sem] theorem zro_37 : zeroC Tryz.prog 37 = some [Abs.AV.nilf] := rfl
@[go_sem] theorem und_39 : Tryz.prog.underlying 39 = some (.int .u64) := rfl
@[go_sem] theorem aggT_39 : aggT Tryz.prog 39 = some false := rfl
@[go_sem] theorem tsz_39 : tsz Tryz.prog 39 = some 1 := rfl
@[go_sem] theorem hasZero_39 : hasZero Tryz.prog 39 = some 1 := rfl
@[go_sem] theorem tby_39 : tby Tryz.prog 39 = some 8 := rfl
@[go_sem] theorem zro_39 : zeroC Tryz.prog 39 = some [Abs.AV.int IntKind.u64 0] := rfl
@[go_sem] theorem aggT_40 : aggT Tryz.prog 40 = some false := rfl
@[go_sem] theorem tsz_40 : tsz Tryz.prog 40 = some 1 := rfl
@[go_sem] theorem hasZero_40 : hasZero Tryz.prog 40 = some 1 := rfl
@[go_sem] theorem tby_40 : tby Tryz.prog 40 = some 8 := rfl
@[go_sem] theorem zro_40 : zeroC Tryz.prog 40 = some [Abs.AV.nilf] := rfl
@[go_sem] theorem aggT_43 : aggT Tryz.prog 43 = some false := rfl
@[go_sem] theorem tsz_43 : tsz Tryz.prog 43 = some 1 := rfl
@[go_sem] theorem hasZero_43 : hasZero Tryz.prog 43 = some 1 := rfl
@[go_sem] theorem tby_43 : tby Tryz.prog 43 = some 0 := rfl
@[go_sem] theorem zro_43 : zeroC Tryz.prog 43 = some [Abs.AV.junk] := rfl
@[go_sem] theorem und_44 : Tryz.prog.underlying 44 = some (.pointer 60) := rfl
@[go_sem] theorem aggT_44 : aggT Tryz.prog 44 = some false := rfl
@[go_sem] theorem tsz_44 : tsz Tryz.prog 44 = some 1 := rfl
@[go_sem] theorem hasZero_44 : hasZero Tryz.prog 44 = some 1 := rfl
@[go_sem] theorem tby_44 : tby Tryz.prog 44 = some 8 := rfl
@[go_sem] theorem zro_44 : zeroC Tryz.prog 44 = some [Abs.AV.nilp] := rfl
@[go_sem] theorem aggT_49 : aggT Tryz.prog 49 = some false := rfl
@[go_sem] theorem tsz_49 : tsz Tryz.prog 49 = some 1 := rfl
@[go_sem] theorem hasZero_49 : hasZero Tryz.prog 49 = some 1 := rfl
@[go_sem] theorem tby_49 : tby Tryz.prog 49 = some 0 := rfl
@[go_sem] theorem zro_49 : zeroC Tryz.prog 49 = some [Abs.AV.junk] := rfl
@[go_sem] theorem aggT_51 : aggT Tryz.prog 51 = some false := rfl
@[go_sem] theorem tsz_51 : tsz Tryz.prog 51 = some 1 := rfl
@[go_sem] theorem hasZero_51 : hasZero Tryz.prog 51 = some 1 := rfl
@[go_sem] theorem tby_51 : tby Tryz.prog 51 = some 8 := rfl
@[go_sem] theorem zro_51 : zeroC Tryz.prog 51 = some [Abs.AV.nilf] := rfl
@[go_sem] theorem aggT_53 : aggT Tryz.prog 53 = some true := rfl
@[go_sem] theorem tsz_53 : tsz Tryz.prog 53 = some 2 := rfl
@[go_sem] theorem hasZero_53 : hasZero Tryz.prog 53 = some 2 := rfl
@[go_sem] theorem tby_53 : tby Tryz.prog 53 = some 16 := rfl
@[go_sem] theorem szs_53 : szsOf Tryz.prog 53 = true := rfl
@[go_sem] theorem zro_53 : zeroC Tryz.prog 53 = some [Abs.AV.int IntKind.i64 0, Abs.AV.int IntKind.i64 0] := rfl
@[go_sem] theorem aggT_57 : aggT Tryz.prog 57 = some false := rfl
@[go_sem] theorem tsz_57 : tsz Tryz.prog 57 = some 1 := rfl
@[go_sem] theorem hasZero_57 : hasZero Tryz.prog 57 = some 1 := rfl
@[go_sem] theorem tby_57 : tby Tryz.prog 57 = some 8 := rfl
@[go_sem] theorem zro_57 : zeroC Tryz.prog 57 = some [Abs.AV.nilf] := rfl
@[go_sem] theorem aggT_60 : aggT Tryz.prog 60 = some true := rfl
@[go_sem] theorem tsz_60 : tsz Tryz.prog 60 = some 18 := rfl
@[go_sem] theorem hasZero_60 : hasZero Tryz.prog 60 = some 18 := rfl
@[go_sem] theorem tby_60 : tby Tryz.prog 60 = some 200 := rfl
@[go_sem] theorem szs_60 : szsOf Tryz.prog 60 = true := rfl
@[go_sem] theorem aggT_61 : aggT Tryz.prog 61 = some false := rfl
@[go_sem] theorem tsz_61 : tsz Tryz.prog 61 = some 1 := rfl
@[go_sem] theorem hasZero_61 : hasZero Tryz.prog 61 = some 1 := rfl
@[go_sem] theorem tby_61 : tby Tryz.prog 61 = some 0 := rfl
@[go_sem] theorem zro_61 : zeroC Tryz.prog 61 = some [Abs.AV.junk] := rfl
@[go_sem] theorem aggT_63 : aggT Tryz.prog 63 = some false := rfl
@[go_sem] theorem tsz_63 : tsz Tryz.prog 63 = some 1 := rfl
@[go_sem] theorem hasZero_63 : hasZero Tryz.prog 63 = some 1 := rfl
@[go_sem] theorem tby_63 : tby Tryz.prog 63 = some 0 := rfl
@[go_sem] theorem zro_63 : zeroC Tryz.prog 63 = some [Abs.AV.junk] := rfl
@[go_sem] theorem aggT_65 : aggT Tryz.prog 65 = some false := rfl
@[go_sem] theorem tsz_65 : tsz Tryz.prog 65 = some 1 := rfl
@[go_sem] theorem hasZero_65 : hasZero Tryz.prog 65 = some 1 := rfl
@[go_sem] theorem tby_65 : tby Tryz.prog 65 = some 8 := rfl
@[go_sem] theorem zro_65 : zeroC Tryz.prog 65 = some [Abs.AV.nilf] := rfl
@[go_sem] theorem aggT_66 : aggT Tryz.prog 66 = some false := rfl
@[go_sem] theorem tsz_66 : tsz Tryz.prog 66 = some 1 := rfl
@[go_sem] theorem hasZero_66 : hasZero Tryz.prog 66 = some 1 := rfl
@[go_sem] theorem tby_66 : tby Tryz.prog 66 = some 8 := rfl
@[go_sem] theorem zro_66 : zeroC Tryz.prog 66 = some [Abs.AV.nilf] := rfl
@[go_sem] theorem aggT_69 : aggT Tryz.prog 69 = some true := rfl
@[go_sem] theorem tsz_69 : tsz Tryz.prog 69 = some 2 := rfl
@[go_sem] theorem hasZero_69 : hasZero Tryz.prog 69 = some 2 := rfl
@[go_sem] theorem tby_69 : tby Tryz.prog 69 = some 16 := rfl
@[go_sem] theorem szs_69 : szsOf Tryz.prog 69 = true := rfl
@[go_sem] theorem zro_69 : zeroC Tryz.prog 69 = some [Abs.AV.int IntKind.i64 0, Abs.AV.int IntKind.i64 0] := rfl
@[go_sem] theorem aggT_70 : aggT Tryz.prog 70 = some false := rfl
@[go_sem] theorem tsz_70 : tsz Tryz.prog 70 = some 1 := rfl
@[go_sem] theorem hasZero_70 : hasZero Tryz.prog 70 = some 1 := rfl
@[go_sem] theorem tby_70 : tby Tryz.prog 70 = some 8 := rfl
@[go_sem] theorem zro_70 : zeroC Tryz.prog 70 = some [Abs.AV.nilf] := rfl
@[go_sem] theorem aggT_71 : aggT Tryz.prog 71 = some false := rfl
@[go_sem] theorem tsz_71 : tsz Tryz.prog 71 = some 1 := rfl
@[go_sem] theorem hasZero_71 : hasZero Tryz.prog 71 = some 1 := rfl
@[go_sem] theorem tby_71 : tby Tryz.prog 71 = some 8 := rfl
@[go_sem] theorem zro_71 : zeroC Tryz.prog 71 = some [Abs.AV.nilf] := rfl
@[go_sem] theorem aggT_75 : aggT Tryz.prog 75 = some true := rfl
@[go_sem] theorem tsz_75 : tsz Tryz.prog 75 = some 17 := rfl
@[go_sem] theorem hasZero_75 : hasZero Tryz.prog 75 = some 17 := rfl
@[go_sem] theorem tby_75 : tby Tryz.prog 75 = some 192 := rfl
@[go_sem] theorem szs_75 : szsOf Tryz.prog 75 = true := rfl
@[go_sem] theorem zro_75 : zeroC Tryz.prog 75 = some [Abs.AV.int IntKind.i64 0, Abs.AV.int IntKind.i64 0, Abs.AV.int IntKind.i64 0, Abs.AV.bool false, Abs.AV.int IntKind.i64 0, Abs.AV.bool false, Abs.AV.bool false, Abs.AV.nils, Abs.AV.nils, Abs.AV.nils, Abs.AV.nils, Abs.AV.int IntKind.i64 0, Abs.AV.int IntKind.i64 0, Abs.AV.int IntKind.i64 0, Abs.AV.int IntKind.i64 0, Abs.AV.int IntKind.i64 0, Abs.AV.int IntKind.i64 0] := rfl
@[go_sem] theorem aggT_77 : aggT Tryz.prog 77 = some false := rfl
@[go_sem] theorem tsz_77 : tsz Tryz.prog 77 = some 1 := rfl
@[go_sem] theorem hasZero_77 : hasZero Tryz.prog 77 = some 1 := rfl
@[go_sem] theorem tby_77 : tby Tryz.prog 77 = some 0 := rfl
@[go_sem] theorem zro_77 : zeroC Tryz.prog 77 = some [Abs.AV.junk] := rfl
@[go_sem] theorem aggT_86 : aggT Tryz.prog 86 = some false := rfl
@[go_sem] theorem tsz_86 : tsz Tryz.prog 86 = some 1 := rfl
@[go_sem] theorem hasZero_86 : hasZero Tryz.prog 86 = some 1 := rfl
@[go_sem] theorem tby_86 : tby Tryz.prog 86 = some 8 := rfl
@[go_sem] theorem zro_86 : zeroC Tryz.prog 86 = some [Abs.AV.nilf] := rfl
@[go_sem] theorem aggT_90 : aggT Tryz.prog 90 = some false := rfl
@[go_sem] theorem tsz_90 : tsz Tryz.prog 90 = some 1 := rfl
@[go_sem] theorem hasZero_90 : hasZero Tryz.prog 90 = some 1 := rfl
@[go_sem] theorem tby_90 : tby Tryz.prog 90 = some 8 := rfl
@[go_sem] theorem zro_90 : zeroC Tryz.prog 90 = some [Abs.AV.nilf] := rfl
@[go_sem] theorem aggT_91 : aggT Tryz.prog 91 = some false := rfl
@[go_sem] theorem tsz_91 : tsz Tryz.prog 91 = some 1 := rfl
@[go_sem] theorem hasZero_91 : hasZero Tryz.prog 91 = some 1 := rfl
@[go_sem] theorem tby_91 : tby Tryz.prog 91 = some 8 := rfl
@[go_sem] theorem zro_91 : zeroC Tryz.prog 91 = some [Abs.AV.nilf] := rfl
@[go_sem] theorem aggT_93 : aggT Tryz.prog 93 = some false := rfl
@[go_sem] theorem tsz_93 : tsz Tryz.prog 93 = some 1 := rfl
@[go_sem] theorem hasZero_93 : hasZero Tryz.prog 93 = some 1 := rfl
@[go_sem] theorem tby_93 : tby Tryz.prog 93 = some 8 := rfl
@[go_sem] theorem zro_93 : zeroC Tryz.prog 93 = some [Abs.AV.nilf] := rfl
@[go_sem] theorem aggT_94 : aggT Tryz.prog 94 = some false := rfl
@[go_sem] theorem tsz_94 : tsz Tryz.prog 94 = some 1 := rfl
@[go_sem] theorem hasZero_94 : hasZero Tryz.prog 94 = some 1 := rfl
@[go_sem] theorem tby_94 : tby Tryz.prog 94 = some 0 := rfl
@[go_sem] theorem zro_94 : zeroC Tryz.prog 94 = some [Abs.AV.junk] := rfl
@[go_sem] theorem aggT_104 : aggT Tryz.prog 104 = some false := rfl
@[go_sem] theorem tsz_104 : tsz Tryz.prog 104 = some 1 := rfl
@[go_sem] theorem hasZero_104 : hasZero Tryz.prog 104 = some 1 := rfl
@[go_sem] theorem tby_104 : tby Tryz.prog 104 = some 8 := rfl
@[go_sem] theorem zro_104 : zeroC Tryz.prog 104 = some [Abs.AV.nilf] := rfl
@[go_sem] theorem aggT_105 : aggT Tryz.prog 105 = some true := rfl
@[go_sem] theorem tsz_105 : tsz Tryz.prog 105 = some 12 := rfl
@[go_sem] theorem hasZero_105 : hasZero Tryz.prog 105 = some 12 := rfl
@[go_sem] theorem tby_105 : tby Tryz.prog 105 = some 96 := rfl
@[go_sem] theorem zro_105 : zeroC Tryz.prog 105 = some [Abs.AV.int IntKind.i64 0, Abs.AV.int IntKind.i64 0, Abs.AV.int IntKind.i64 0, Abs.AV.int IntKind.i64 0, Abs.AV.int IntKind.i64 0, Abs.AV.int IntKind.i64 0, Abs.AV.int IntKind.i64 0, Abs.AV.int IntKind.i64 0, Abs.AV.int IntKind.i64 0, Abs.AV.int IntKind.i64 0, Abs.AV.int IntKind.i64 0, Abs.AV.int IntKind.i64 0] := rfl
@[go_sem] theorem und_111 : Tryz.prog.underlying 111 = some (.slice 5) := rfl
@[go_sem] theorem aggT_111 : aggT Tryz.prog 111 = some false := rfl
@[go_sem] theorem tsz_111 : tsz Tryz.prog 111 = some 1 := rfl
@[go_sem] theorem hasZero_111 : hasZero Tryz.prog 111 = some 1 := rfl
@[go_sem] theorem tby_111 : tby Tryz.prog 111 = some 24 := rfl
@[go_sem] theorem zro_111 : zeroC Tryz.prog 111 = some [Abs.AV.nils] := rfl
@[go_sem] theorem und_114 : Tryz.prog.underlying 114 = some (.int .u64) := rfl
@[go_sem] theorem aggT_114 : aggT Tryz.prog 114 = some false := rfl
@[go_sem] theorem tsz_114 : tsz Tryz.prog 114 = some 1 := rfl
@[go_sem] theorem hasZero_114 : hasZero Tryz.prog 114 = some 1 := rfl
@[go_sem] theorem tby_114 : tby Tryz.prog 114 = some 8 := rfl
@[go_sem] theorem zro_114 : zeroC Tryz.prog 114 = some [Abs.AV.int IntKind.u64 0] := rfl
@[go_sem] theorem aggT_115 : aggT Tryz.prog 115 = some false := rfl
@[go_sem] theorem tsz_115 : tsz Tryz.prog 115 = some 1 := rfl
@[go_sem] theorem hasZero_115 : hasZero Tryz.prog 115 = some 1 := rfl
@[go_sem] theorem tby_115 : tby Tryz.prog 115 = some 0 := rfl
@[go_sem] theorem zro_115 : zeroC Tryz.prog 115 = some [Abs.AV.junk] := rfl
@[go_sem] theorem und_118 : Tryz.prog.underlying 118 = some (.pointer 120) := rfl
@[go_sem] theorem aggT_118 : aggT Tryz.prog 118 = some false := rfl
@[go_sem] theorem tsz_118 : tsz Tryz.prog 118 = some 1 := rfl
@[go_sem] theorem hasZero_118 : hasZero Tryz.prog 118 = some 1 := rfl
@[go_sem] theorem tby_118 : tby Tryz.prog 118 = some 8 := rfl
@[go_sem] theorem zro_118 : zeroC Tryz.prog 118 = some [Abs.AV.nilp] := rfl
@[go_sem] theorem aggT_120 : aggT Tryz.prog 120 = some true := rfl
@[go_sem] theorem tsz_120 : tsz Tryz.prog 120 = some 2 := rfl
@[go_sem] theorem hasZero_120 : hasZero Tryz.prog 120 = some 2 := rfl
@[go_sem] theorem tby_120 : tby Tryz.prog 120 = some 32 := rfl
@[go_sem] theorem szs_120 : szsOf Tryz.prog 120 = true := rfl
@[go_sem] theorem zro_120 : zeroC Tryz.prog 120 = some [Abs.AV.nilp, Abs.AV.nils] := rfl
@[go_sem] theorem aggT_123 : aggT Tryz.prog 123 = some false := rfl
@[go_sem] theorem tsz_123 : tsz Tryz.prog 123 = some 1 := rfl
@[go_sem] theorem hasZero_123 : hasZero Tryz.prog 123 = some 1 := rfl
@[go_sem] theorem tby_123 : tby Tryz.prog 123 = some 16 := rfl
@[go_sem] theorem zro_123 : zeroC Tryz.prog 123 = some [Abs.AV.nili] := rfl
@[go_sem] theorem aggT_124 : aggT Tryz.prog 124 = some false := rfl
@[go_sem] theorem tsz_124 : tsz Tryz.prog 124 = some 1 := rfl
@[go_sem] theorem hasZero_124 : hasZero Tryz.prog 124 = some 1 := rfl
@[go_sem] theorem tby_124 : tby Tryz.prog 124 = some 0 := rfl
@[go_sem] theorem zro_124 : zeroC Tryz.prog 124 = some [Abs.AV.junk] := rfl
@[go_sem] theorem aggT_129 : aggT Tryz.prog 129 = some true := rfl
@[go_sem] theorem tsz_129 : tsz Tryz.prog 129 = some 24 := rfl
@[go_sem] theorem hasZero_129 : hasZero Tryz.prog 129 = some 24 := rfl
@[go_sem] theorem tby_129 : tby Tryz.prog 129 = some 24 := rfl
@[go_sem] theorem aggT_132 : aggT Tryz.prog 132 = some false := rfl
@[go_sem] theorem tsz_132 : tsz Tryz.prog 132 = some 1 := rfl
@[go_sem] theorem hasZero_132 : hasZero Tryz.prog 132 = some 1 := rfl
@[go_sem] theorem tby_132 : tby Tryz.prog 132 = some 0 := rfl
@[go_sem] theorem zro_132 : zeroC Tryz.prog 132 = some [Abs.AV.junk] := rfl
@[go_sem] theorem und_134 : Tryz.prog.underlying 134 = some (.int .u32) := rfl
@[go_sem] theorem aggT_134 : aggT Tryz.prog 134 = some false := rfl
@[go_sem] theorem tsz_134 : tsz Tryz.prog 134 = some 1 := rfl
@[go_sem] theorem hasZero_134 : hasZero Tryz.prog 134 = some 1 := rfl
@[go_sem] theorem tby_134 : tby Tryz.prog 134 = some 4 := rfl
@[go_sem] theorem zro_134 : zeroC Tryz.prog 134 = some [Abs.AV.int IntKind.u32 0] := rfl
@[go_sem] theorem aggT_135 : aggT Tryz.prog 135 = some false := rfl
@[go_sem] theorem tsz_135 : tsz Tryz.prog 135 = some 1 := rfl
@[go_sem] theorem hasZero_135 : hasZero Tryz.prog 135 = some 1 := rfl
@[go_sem] theorem tby_135 : tby Tryz.prog 135 = some 0 := rfl
@[go_sem] theorem zro_135 : zeroC Tryz.prog 135 = some [Abs.AV.junk] := rfl
@[go_sem] theorem aggT_137 : aggT Tryz.prog 137 = some false := rfl
@[go_sem] theorem tsz_137 : tsz Tryz.prog 137 = some 1 := rfl
@[go_sem] theorem hasZero_137 : hasZero Tryz.prog 137 = some 1 := rfl
@[go_sem] theorem tby_137 : tby Tryz.prog 137 = some 0 := rfl
@[go_sem] theorem zro_137 : zeroC Tryz.prog 137 = some [Abs.AV.junk] := rfl
@[go_sem] theorem und_139 : Tryz.prog.underlying 139 = some (.pointer 5) := rfl
@[go_sem] theorem aggT_139 : aggT Tryz.prog 139 = some false := rfl
@[go_sem] theorem tsz_139 : tsz Tryz.prog 139 = some 1 := rfl
@[go_sem] theorem hasZero_139 : hasZero Tryz.prog 139 = some 1 := rfl
@[go_sem] theorem tby_139 : tby Tryz.prog 139 = some 8 := rfl
@[go_sem] theorem zro_139 : zeroC Tryz.prog 139 = some [Abs.AV.nilp] := rfl
@[go_sem] theorem aggT_142 : aggT Tryz.prog 142 = some true := rfl
@[go_sem] theorem tsz_142 : tsz Tryz.prog 142 = some 20 := rfl
@[go_sem] theorem hasZero_142 : hasZero Tryz.prog 142 = some 20 := rfl
@[go_sem] theorem tby_142 : tby Tryz.prog 142 = some 160 := rfl
@[go_sem] theorem aggT_143 : aggT Tryz.prog 143 = some true := rfl
@[go_sem] theorem tsz_143 : tsz Tryz.prog 143 = some 65 := rfl
@[go_sem] theorem hasZero_143 : hasZero Tryz.prog 143 = some 65 := rfl
@[go_sem] theorem tby_143 : tby Tryz.prog 143 = some 65 := rfl
@[go_sem] theorem und_145 : Tryz.prog.underlying 145 = some (.unsafePointer) := rfl
@[go_sem] theorem aggT_145 : aggT Tryz.prog 145 = some false := rfl
@[go_sem] theorem tsz_145 : tsz Tryz.prog 145 = some 1 := rfl
@[go_sem] theorem hasZero_145 : hasZero Tryz.prog 145 = some 1 := rfl
@[go_sem] theorem tby_145 : tby Tryz.prog 145 = some 8 := rfl
@[go_sem] theorem zro_145 : zeroC Tryz.prog 145 = some [Abs.AV.nilp] := rfl
@[go_sem] theorem aggT_149 : aggT Tryz.prog 149 = some true := rfl
@[go_sem] theorem tsz_149 : tsz Tryz.prog 149 = some 32 := rfl
@[go_sem] theorem hasZero_149 : hasZero Tryz.prog 149 = some 32 := rfl
@[go_sem] theorem tby_149 : tby Tryz.prog 149 = some 32 := rfl
@[go_sem] theorem aggT_150 : aggT Tryz.prog 150 = some true := rfl
@[go_sem] theorem tsz_150 : tsz Tryz.prog 150 = some 64 := rfl
@[go_sem] theorem hasZero_150 : hasZero Tryz.prog 150 = some 64 := rfl
@[go_sem] theorem tby_150 : tby Tryz.prog 150 = some 64 := rfl
@[go_sem high] theorem fa_7_0 (id g i c : Nat) : aFieldAddr Tryz.prog 7 (.ptr id g i c) 0 = some (True, .ptr id g i (c + 0)) := fieldAddr_ptr (n := 0) rfl id g i c
@[go_sem high] theorem ff_7_0 (cs : List AV) : aFieldAddr Tryz.prog 7 (.fptr cs) 0 = some (0 ≤ cs.length, .fptr (cs.drop 0)) := fieldAddr_fptr (n := 0) rfl cs
@[go_sem high] theorem fv_7_0 (cs : List AV) : aField Tryz.prog 7 (.agg cs) 0 = aPart Tryz.prog 2 cs 0 := field_agg rfl cs
@[go_sem high] theorem fa_7_1 (id g i c : Nat) : aFieldAddr Tryz.prog 7 (.ptr id g i c) 1 = some (True, .ptr id g i (c + 1)) := fieldAddr_ptr (n := 0) rfl id g i c
@[go_sem high] theorem ff_7_1 (cs : List AV) : aFieldAddr Tryz.prog 7 (.fptr cs) 1 = some (1 ≤ cs.length, .fptr (cs.drop 1)) := fieldAddr_fptr (n := 0) rfl cs
@[go_sem high] theorem fv_7_1 (cs : List AV) : aField Tryz.prog 7 (.agg cs) 1 = aPart Tryz.prog 3 cs 1 := field_agg rfl cs
@[go_sem high] theorem fa_7_2 (id g i c : Nat) : aFieldAddr Tryz.prog 7 (.ptr id g i c) 2 = some (True, .ptr id g i (c + 2)) := fieldAddr_ptr (n := 0) rfl id g i c
@[go_sem high] theorem ff_7_2 (cs : List AV) : aFieldAddr Tryz.prog 7 (.fptr cs) 2 = some (2 ≤ cs.length, .fptr (cs.drop 2)) := fieldAddr_fptr (n := 0) rfl cs
@[go_sem high] theorem fv_7_2 (cs : List AV) : aField Tryz.prog 7 (.agg cs) 2 = aPart Tryz.prog 4 cs 2 := field_agg rfl cs
@[go_sem high] theorem fa_7_3 (id g i c : Nat) : aFieldAddr Tryz.prog 7 (.ptr id g i c) 3 = some (True, .ptr id g i (c + 3)) := fieldAddr_ptr (n := 0) rfl id g i c
@[go_sem high] theorem ff_7_3 (cs : List AV) : aFieldAddr Tryz.prog 7 (.fptr cs) 3 = some (3 ≤ cs.length, .fptr (cs.drop 3)) := fieldAddr_fptr (n := 0) rfl cs
@[go_sem high] theorem fv_7_3 (cs : List AV) : aField Tryz.prog 7 (.agg cs) 3 = aPart Tryz.prog 6 cs 3 := field_agg rfl cs
@[go_sem high] theorem fa_8_0 (id g i c : Nat) : aFieldAddr Tryz.prog 8 (.ptr id g i c) 0 = some (True, .ptr id g i (c + 0)) := fieldAddr_ptr (n := 0) rfl id g i c
@[go_sem high] theorem ff_8_0 (cs : List AV) : aFieldAddr Tryz.prog 8 (.fptr cs) 0 = some (0 ≤ cs.length, .fptr (cs.drop 0)) := fieldAddr_fptr (n := 0) rfl cs
@[go_sem high] theorem fv_8_0 (cs : List AV) : aField Tryz.prog 8 (.agg cs) 0 = aPart Tryz.prog 2 cs 0 := field_agg rfl cs
@[go_sem high] theorem fa_8_1 (id g i c : Nat) : aFieldAddr Tryz.prog 8 (.ptr id g i c) 1 = some (True, .ptr id g i (c + 1)) := fieldAddr_ptr (n := 0) rfl id g i c
@[go_sem high] theorem ff_8_1 (cs : List AV) : aFieldAddr Tryz.prog 8 (.fptr cs) 1 = some (1 ≤ cs.length, .fptr (cs.drop 1)) := fieldAddr_fptr (n := 0) rfl cs
@[go_sem high] theorem fv_8_1 (cs : List AV) : aField Tryz.prog 8 (.agg cs) 1 = aPart Tryz.prog 3 cs 1 := field_agg rfl cs
@[go_sem high] theorem fa_8_2 (id g i c : Nat) : aFieldAddr Tryz.prog 8 (.ptr id g i c) 2 = some (True, .ptr id g i (c + 2)) := fieldAddr_ptr (n := 0) rfl id g i c
@[go_sem high] theorem ff_8_2 (cs : List AV) : aFieldAddr Tryz.prog 8 (.fptr cs) 2 = some (2 ≤ cs.length, .fptr (cs.drop 2)) := fieldAddr_fptr (n := 0) rfl cs
@[go_sem high] theorem fv_8_2 (cs : List AV) : aField Tryz.prog 8 (.agg cs) 2 = aPart Tryz.prog 4 cs 2 := field_agg rfl cs
@[go_sem high] theorem fa_8_3 (id g i c : Nat) : aFieldAddr Tryz.prog 8 (.ptr id g i c) 3 = some (True, .ptr id g i (c + 3)) := fieldAddr_ptr (n := 0) rfl id g i c
@[go_sem high] theorem ff_8_3 (cs : List AV) : aFieldAddr Tryz.prog 8 (.fptr cs) 3 = some (3 ≤ cs.length, .fptr (cs.drop 3)) := fieldAddr_fptr (n := 0) rfl cs
@[go_sem high] theorem fv_8_3 (cs : List AV) : aField Tryz.prog 8 (.agg cs) 3 = aPart Tryz.prog 6 cs 3 := field_agg rfl cs
@[go_sem high] theorem fa_13_0 (id g i c : Nat) : aFieldAddr Tryz.prog 13 (.ptr id g i c) 0 = some (True, .ptr id g i (c + 0)) := fieldAddr_ptr (n := 0) rfl id g i c
@[go_sem high] theorem ff_13_0 (cs : List AV) : aFieldAddr Tryz.prog 13 (.fptr cs) 0 = some (0 ≤ cs.length, .fptr (cs.drop 0)) := fieldAddr_fptr (n := 0) rfl cs
@[go_sem high] theorem fv_13_0 (cs : List AV) : aField Tryz.prog 13 (.agg cs) 0 = aPart Tryz.prog 9 cs 0 := field_agg rfl cs
@[go_sem high] theorem fa_13_1 (id g i c : Nat) : aFieldAddr Tryz.prog 13 (.ptr id g i c) 1 = some (True, .ptr id g i (c + 1)) := fieldAddr_ptr (n := 0) rfl id g i c
@[go_sem high] theorem ff_13_1 (cs : List AV) : aFieldAddr Tryz.prog 13 (.fptr cs) 1 = some (1 ≤ cs.length, .fptr (cs.drop 1)) := fieldAddr_fptr (n := 0) rfl cs
@[go_sem high] theorem fv_13_1 (cs : List AV) : aField Tryz.prog 13 (.agg cs) 1 = aPart Tryz.prog 12 cs 1 := field_agg rfl cs
@[go_sem high] theorem fa_14_0 (id g i c : Nat) : aFieldAddr Tryz.prog 14 (.ptr id g i c) 0 = some (True, .ptr id g i (c + 0)) := fieldAddr_ptr (n := 0) rfl id g i c
@[go_sem high] theorem ff_14_0 (cs : List AV) : aFieldAddr Tryz.prog 14 (.fptr cs) 0 = some (0 ≤ cs.length, .fptr (cs.drop 0)) := fieldAddr_fptr (n := 0) rfl cs
@[go_sem high] theorem fv_14_0 (cs : List AV) : aField Tryz.prog 14 (.agg cs) 0 = aPart Tryz.prog 9 cs 0 := field_agg rfl cs
@[go_sem high] theorem fa_14_1 (id g i c : Nat) : aFieldAddr Tryz.prog 14 (.ptr id g i c) 1 = some (True, .ptr id g i (c + 1)) := fieldAddr_ptr (n := 0) rfl id g i c
@[go_sem high] theorem ff_14_1 (cs : List AV) : aFieldAddr Tryz.prog 14 (.fptr cs) 1 = some (1 ≤ cs.length, .fptr (cs.drop 1)) := fieldAddr_fptr (n := 0) rfl cs
@[go_sem high] theorem fv_14_1 (cs : List AV) : aField Tryz.prog 14 (.agg cs) 1 = aPart Tryz.prog 12 cs 1 := field_agg rfl cs
@[go_sem high] theorem fa_18_0 (id g i c : Nat) : aFieldAddr Tryz.prog 18 (.ptr id g i c) 0 = some (True, .ptr id g i (c + 0)) := fieldAddr_ptr (n := 0) rfl id g i c
@[go_sem high] theorem ff_18_0 (cs : List AV) : aFieldAddr Tryz.prog 18 (.fptr cs) 0 = some (0 ≤ cs.length, .fptr (cs.drop 0)) := fieldAddr_fptr (n := 0) rfl cs
@[go_sem high] theorem fv_18_0 (cs : List AV) : aField Tryz.prog 18 (.agg cs) 0 = aPart Tryz.prog 17 cs 0 := field_agg rfl cs
@[go_sem high] theorem fa_19_0 (id g i c : Nat) : aFieldAddr Tryz.prog 19 (.ptr id g i c) 0 = some (True, .ptr id g i (c + 0)) := fieldAddr_ptr (n := 0) rfl id g i c
@[go_sem high] theorem ff_19_0 (cs : List AV) : aFieldAddr Tryz.prog 19 (.fptr cs) 0 = some (0 ≤ cs.length, .fptr (cs.drop 0)) := fieldAddr_fptr (n := 0) rfl cs
@[go_sem high] theorem fv_19_0 (cs : List AV) : aField Tryz.prog 19 (.agg cs) 0 = aPart Tryz.prog 17 cs 0 := field_agg rfl cs
@[go_sem high] theorem fa_22_0 (id g i c : Nat) : aFieldAddr Tryz.prog 22 (.ptr id g i c) 0 = some (True, .ptr id g i (c + 0)) := fieldAddr_ptr (n := 0) rfl id g i c
@[go_sem high] theorem ff_22_0 (cs : List AV) : aFieldAddr Tryz.prog 22 (.fptr cs) 0 = some (0 ≤ cs.length, .fptr (cs.drop 0)) := fieldAddr_fptr (n := 0) rfl cs
@[go_sem high] theorem fv_22_0 (cs : List AV) : aField Tryz.prog 22 (.agg cs) 0 = aPart Tryz.prog 2 cs 0 := field_agg rfl cs
@[go_sem high] theorem fa_22_1 (id g i c : Nat) : aFieldAddr Tryz.prog 22 (.ptr id g i c) 1 = some (True, .ptr id g i (c + 1)) := fieldAddr_ptr (n := 0) rfl id g i c
@[go_sem high] theorem ff_22_1 (cs : List AV) : aFieldAddr Tryz.prog 22 (.fptr cs) 1 = some (1 ≤ cs.length, .fptr (cs.drop 1)) := fieldAddr_fptr (n := 0) rfl cs
@[go_sem high] theorem fv_22_1 (cs : List AV) : aField Tryz.prog 22 (.agg cs) 1 = aPart Tryz.prog 4 cs 1 := field_agg rfl cs
@[go_sem high] theorem fa_22_2 (id g i c : Nat) : aFieldAddr Tryz.prog 22 (.ptr id g i c) 2 = some (True, .ptr id g i (c + 2)) := fieldAddr_ptr (n := 0) rfl id g i c
@[go_sem high] theorem ff_22_2 (cs : List AV) : aFieldAddr Tryz.prog 22 (.fptr cs) 2 = some (2 ≤ cs.length, .fptr (cs.drop 2)) := fieldAddr_fptr (n := 0) rfl cs
@[go_sem high] theorem fv_22_2 (cs : List AV) : aField Tryz.prog 22 (.agg cs) 2 = aPart Tryz.prog 4 cs 2 := field_agg rfl cs
@[go_sem] theorem fld_23_0 : fldOf Tryz.prog 23 0 = some (0, 1) := rfl
@[go_sem high] theorem fa_23_0 (id g i c : Nat) : aFieldAddr Tryz.prog 23 (.ptr id g i c) 0 = some (True, .ptr id g i (c + 0)) := fieldAddr_ptr (n := 0) rfl id g i c
@[go_sem high] theorem ff_23_0 (cs : List AV) : aFieldAddr Tryz.prog 23 (.fptr cs) 0 = some (0 ≤ cs.length, .fptr (cs.drop 0)) := fieldAddr_fptr (n := 0) rfl cs
@[go_sem high] theorem fv_23_0 (cs : List AV) : aField Tryz.prog 23 (.agg cs) 0 = aPart Tryz.prog 2 cs 0 := field_agg rfl cs
@[go_sem] theorem fld_23_1 : fldOf Tryz.prog 23 1 = some (1, 1) := rfl
@[go_sem high] theorem fa_23_1 (id g i c : Nat) : aFieldAddr Tryz.prog 23 (.ptr id g i c) 1 = some (True, .ptr id g i (c + 1)) := fieldAddr_ptr (n := 0) rfl id g i c
@[go_sem high] theorem ff_23_1 (cs : List AV) : aFieldAddr Tryz.prog 23 (.fptr cs) 1 = some (1 ≤ cs.length, .fptr (cs.drop 1)) := fieldAddr_fptr (n := 0) rfl cs
@[go_sem high] theorem fv_23_1 (cs : List AV) : aField Tryz.prog 23 (.agg cs) 1 = aPart Tryz.prog 4 cs 1 := field_agg rfl cs
@[go_sem] theorem fld_23_2 : fldOf Tryz.prog 23 2 = some (2, 1) := rfl
@[go_sem high] theorem fa_23_2 (id g i c : Nat) : aFieldAddr Tryz.prog 23 (.ptr id g i c) 2 = some (True, .ptr id g i (c + 2)) := fieldAddr_ptr (n := 0) rfl id g i c
@[go_sem high] theorem ff_23_2 (cs : List AV) : aFieldAddr Tryz.prog 23 (.fptr cs) 2 = some (2 ≤ cs.length, .fptr (cs.drop 2)) := fieldAddr_fptr (n := 0) rfl cs
@[go_sem high] theorem fv_23_2 (cs : List AV) : aField Tryz.prog 23 (.agg cs) 2 = aPart Tryz.prog 4 cs 2 := field_agg rfl cs
@[go_sem high] theorem fa_26_0 (id g i c : Nat) : aFieldAddr Tryz.prog 26 (.ptr id g i c) 0 = some (True, .ptr id g i (c + 0)) := fieldAddr_ptr (n := 0) rfl id g i c
@[go_sem high] theorem ff_26_0 (cs : List AV) : aFieldAddr Tryz.prog 26 (.fptr cs) 0 = some (0 ≤ cs.length, .fptr (cs.drop 0)) := fieldAddr_fptr (n := 0) rfl cs
@[go_sem high] theorem fv_26_0 (cs : List AV) : aField Tryz.prog 26 (.agg cs) 0 = aPart Tryz.prog 3 cs 0 := field_agg rfl cs
@[go_sem high] theorem fa_26_1 (id g i c : Nat) : aFieldAddr Tryz.prog 26 (.ptr id g i c) 1 = some (True, .ptr id g i (c + 1)) := fieldAddr_ptr (n := 0) rfl id g i c
@[go_sem high] theorem ff_26_1 (cs : List AV) : aFieldAddr Tryz.prog 26 (.fptr cs) 1 = some (1 ≤ cs.length, .fptr (cs.drop 1)) := fieldAddr_fptr (n := 0) rfl cs
@[go_sem high] theorem fv_26_1 (cs : List AV) : aField Tryz.prog 26 (.agg cs) 1 = aPart Tryz.prog 3 cs 1 := field_agg rfl cs
@[go_sem high] theorem fa_26_2 (id g i c : Nat) : aFieldAddr Tryz.prog 26 (.ptr id g i c) 2 = some (True, .ptr id g i (c + 2)) := fieldAddr_ptr (n := 0) rfl id g i c
@[go_sem high] theorem ff_26_2 (cs : List AV) : aFieldAddr Tryz.prog 26 (.fptr cs) 2 = some (2 ≤ cs.length, .fptr (cs.drop 2)) := fieldAddr_fptr (n := 0) rfl cs
@[go_sem high] theorem fv_26_2 (cs : List AV) : aField Tryz.prog 26 (.agg cs) 2 = aPart Tryz.prog 3 cs 2 := field_agg rfl cs
@[go_sem high] theorem fa_26_3 (id g i c : Nat) : aFieldAddr Tryz.prog 26 (.ptr id g i c) 3 = some (True, .ptr id g i (c + 3)) := fieldAddr_ptr (n := 0) rfl id g i c
@[go_sem high] theorem ff_26_3 (cs : List AV) : aFieldAddr Tryz.prog 26 (.fptr cs) 3 = some (3 ≤ cs.length, .fptr (cs.drop 3)) := fieldAddr_fptr (n := 0) rfl cs
@[go_sem high] theorem fv_26_3 (cs : List AV) : aField Tryz.prog 26 (.agg cs) 3 = aPart Tryz.prog 4 cs 3 := field_agg rfl cs
@[go_sem high] theorem fa_26_4 (id g i c : Nat) : aFieldAddr Tryz.prog 26 (.ptr id g i c) 4 = some (True, .ptr id g i (c + 4)) := fieldAddr_ptr (n := 2) rfl id g i c
@[go_sem high] theorem ff_26_4 (cs : List AV) : aFieldAddr Tryz.prog 26 (.fptr cs) 4 = some (4 ≤ cs.length, .fptr (cs.drop 4)) := fieldAddr_fptr (n := 2) rfl cs
@[go_sem high] theorem fv_26_4 (cs : List AV) : aField Tryz.prog 26 (.agg cs) 4 = aPart Tryz.prog 23 cs 4 := field_agg rfl cs
@[go_sem high] theorem fa_26_5 (id g i c : Nat) : aFieldAddr Tryz.prog 26 (.ptr id g i c) 5 = some (True, .ptr id g i (c + 7)) := fieldAddr_ptr (n := 0) rfl id g i c
@[go_sem high] theorem ff_26_5 (cs : List AV) : aFieldAddr Tryz.prog 26 (.fptr cs) 5 = some (7 ≤ cs.length, .fptr (cs.drop 7)) := fieldAddr_fptr (n := 0) rfl cs
@[go_sem high] theorem fv_26_5 (cs : List AV) : aField Tryz.prog 26 (.agg cs) 5 = aPart Tryz.prog 24 cs 7 := field_agg rfl cs
@[go_sem high] theorem fa_26_6 (id g i c : Nat) : aFieldAddr Tryz.prog 26 (.ptr id g i c) 6 = some (True, .ptr id g i (c + 8)) := fieldAddr_ptr (n := 0) rfl id g i c
@[go_sem high] theorem ff_26_6 (cs : List AV) : aFieldAddr Tryz.prog 26 (.fptr cs) 6 = some (8 ≤ cs.length, .fptr (cs.drop 8)) := fieldAddr_fptr (n := 0) rfl cs
@[go_sem high] theorem fv_26_6 (cs : List AV) : aField Tryz.prog 26 (.agg cs) 6 = aPart Tryz.prog 24 cs 8 := field_agg rfl cs
@[go_sem high] theorem fa_26_7 (id g i c : Nat) : aFieldAddr Tryz.prog 26 (.ptr id g i c) 7 = some (True, .ptr id g i (c + 9)) := fieldAddr_ptr (n := 0) rfl id g i c
@[go_sem high] theorem ff_26_7 (cs : List AV) : aFieldAddr Tryz.prog 26 (.fptr cs) 7 = some (9 ≤ cs.length, .fptr (cs.drop 9)) := fieldAddr_fptr (n := 0) rfl cs
@[go_sem high] theorem fv_26_7 (cs : List AV) : aField Tryz.prog 26 (.agg cs) 7 = aPart Tryz.prog 25 cs 9 := field_agg rfl cs
@[go_sem high] theorem fa_26_8 (id g i c : Nat) : aFieldAddr Tryz.prog 26 (.ptr id g i c) 8 = some (True, .ptr id g i (c + 10)) := fieldAddr_ptr (n := 0) rfl id g i c
@[go_sem high] theorem ff_26_8 (cs : List AV) : aFieldAddr Tryz.prog 26 (.fptr cs) 8 = some (10 ≤ cs.length, .fptr (cs.drop 10)) := fieldAddr_fptr (n := 0) rfl cs
@[go_sem high] theorem fv_26_8 (cs : List AV) : aField Tryz.prog 26 (.agg cs) 8 = aPart Tryz.prog 24 cs 10 := field_agg rfl cs
@[go_sem high] theorem fa_26_9 (id g i c : Nat) : aFieldAddr Tryz.prog 26 (.ptr id g i c) 9 = some (True, .ptr id g i (c + 11)) := fieldAddr_ptr (n := 0) rfl id g i c
@[go_sem high] theorem ff_26_9 (cs : List AV) : aFieldAddr Tryz.prog 26 (.fptr cs) 9 = some (11 ≤ cs.length, .fptr (cs.drop 11)) := fieldAddr_fptr (n := 0) rfl cs
@[go_sem high] theorem fv_26_9 (cs : List AV) : aField Tryz.prog 26 (.agg cs) 9 = aPart Tryz.prog 3 cs 11 := field_agg rfl cs
@[go_sem] theorem fld_27_0 : fldOf Tryz.prog 27 0 = some (0, 1) := rfl
@[go_sem high] theorem fa_27_0 (id g i c : Nat) : aFieldAddr Tryz.prog 27 (.ptr id g i c) 0 = some (True, .ptr id g i (c + 0)) := fieldAddr_ptr (n := 0) rfl id g i c
@[go_sem high] theorem ff_27_0 (cs : List AV) : aFieldAddr Tryz.prog 27 (.fptr cs) 0 = some (0 ≤ cs.length, .fptr (cs.drop 0)) := fieldAddr_fptr (n := 0) rfl cs
@[go_sem high] theorem fv_27_0 (cs : List AV) : aField Tryz.prog 27 (.agg cs) 0 = aPart Tryz.prog 3 cs 0 := field_agg rfl cs
@[go_sem] theorem fld_27_1 : fldOf Tryz.prog 27 1 = some (1, 1) := rfl
@[go_sem high] theorem fa_27_1 (id g i c : Nat) : aFieldAddr Tryz.prog 27 (.ptr id g i c) 1 = some (True, .ptr id g i (c + 1)) := fieldAddr_ptr (n := 0) rfl id g i c
@[go_sem high] theorem ff_27_1 (cs : List AV) : aFieldAddr Tryz.prog 27 (.fptr cs) 1 = some (1 ≤ cs.length, .fptr (cs.drop 1)) := fieldAddr_fptr (n := 0) rfl cs
@[go_sem high] theorem fv_27_1 (cs : List AV) : aField Tryz.prog 27 (.agg cs) 1 = aPart Tryz.prog 3 cs 1 := field_agg rfl cs
@[go_sem] theorem fld_27_2 : fldOf Tryz.prog 27 2 = some (2, 1) := rfl
@[go_sem high] theorem fa_27_2 (id g i c : Nat) : aFieldAddr Tryz.prog 27 (.ptr id g i c) 2 = some (True, .ptr id g i (c + 2)) := fieldAddr_ptr (n := 0) rfl id g i c
@[go_sem high] theorem ff_27_2 (cs : List AV) : aFieldAddr Tryz.prog 27 (.fptr cs) 2 = some (2 ≤ cs.length, .fptr (cs.drop 2)) := fieldAddr_fptr (n := 0) rfl cs
@[go_sem high] theorem fv_27_2 (cs : List AV) : aField Tryz.prog 27 (.agg cs) 2 = aPart Tryz.prog 3 cs 2 := field_agg rfl cs
@[go_sem] theorem fld_27_3 : fldOf Tryz.prog 27 3 = some (3, 1) := rfl
@[go_sem high] theorem fa_27_3 (id g i c : Nat) : aFieldAddr Tryz.prog 27 (.ptr id g i c) 3 = some (True, .ptr id g i (c + 3)) := fieldAddr_ptr (n := 0) rfl id g i c
@[go_sem high] theorem ff_27_3 (cs : List AV) : aFieldAddr Tryz.prog 27 (.fptr cs) 3 = some (3 ≤ cs.length, .fptr (cs.drop 3)) := fieldAddr_fptr (n := 0) rfl cs
@[go_sem high] theorem fv_27_3 (cs : List AV) : aField Tryz.prog 27 (.agg cs) 3 = aPart Tryz.prog 4 cs 3 := field_agg rfl cs
@[go_sem] theorem fld_27_4 : fldOf Tryz.prog 27 4 = some (4, 3) := rfl
@[go_sem high] theorem fa_27_4 (id g i c : Nat) : aFieldAddr Tryz.prog 27 (.ptr id g i c) 4 = some (True, .ptr id g i (c + 4)) := fieldAddr_ptr (n := 2) rfl id g i c
@[go_sem high] theorem ff_27_4 (cs : List AV) : aFieldAddr Tryz.prog 27 (.fptr cs) 4 = some (4 ≤ cs.length, .fptr (cs.drop 4)) := fieldAddr_fptr (n := 2) rfl cs
@[go_sem high] theorem fv_27_4 (cs : List AV) : aField Tryz.prog 27 (.agg cs) 4 = aPart Tryz.prog 23 cs 4 := field_agg rfl cs
@[go_sem] theorem fld_27_5 : fldOf Tryz.prog 27 5 = some (7, 1) := rfl
@[go_sem high] theorem fa_27_5 (id g i c : Nat) : aFieldAddr Tryz.prog 27 (.ptr id g i c) 5 = some (True, .ptr id g i (c + 7)) := fieldAddr_ptr (n := 0) rfl id g i c
@[go_sem high] theorem ff_27_5 (cs : List AV) : aFieldAddr Tryz.prog 27 (.fptr cs) 5 = some (7 ≤ cs.length, .fptr (cs.drop 7)) := fieldAddr_fptr (n := 0) rfl cs
@[go_sem high] theorem fv_27_5 (cs : List AV) : aField Tryz.prog 27 (.agg cs) 5 = aPart Tryz.prog 24 cs 7 := field_agg rfl cs
@[go_sem] theorem fld_27_6 : fldOf Tryz.prog 27 6 = some (8, 1) := rfl
@[go_sem high] theorem fa_27_6 (id g i c : Nat) : aFieldAddr Tryz.prog 27 (.ptr id g i c) 6 = some (True, .ptr id g i (c + 8)) := fieldAddr_ptr (n := 0) rfl id g i c
@[go_sem high] theorem ff_27_6 (cs : List AV) : aFieldAddr Tryz.prog 27 (.fptr cs) 6 = some (8 ≤ cs.length, .fptr (cs.drop 8)) := fieldAddr_fptr (n := 0) rfl cs
@[go_sem high] theorem fv_27_6 (cs : List AV) : aField Tryz.prog 27 (.agg cs) 6 = aPart Tryz.prog 24 cs 8 := field_agg rfl cs
@[go_sem] theorem fld_27_7 : fldOf Tryz.prog 27 7 = some (9, 1) := rfl
@[go_sem high] theorem fa_27_7 (id g i c : Nat) : aFieldAddr Tryz.prog 27 (.ptr id g i c) 7 = some (True, .ptr id g i (c + 9)) := fieldAddr_ptr (n := 0) rfl id g i c
@[go_sem high] theorem ff_27_7 (cs : List AV) : aFieldAddr Tryz.prog 27 (.fptr cs) 7 = some (9 ≤ cs.length, .fptr (cs.drop 9)) := fieldAddr_fptr (n := 0) rfl cs
@[go_sem high] theorem fv_27_7 (cs : List AV) : aField Tryz.prog 27 (.agg cs) 7 = aPart Tryz.prog 25 cs 9 := field_agg rfl cs
@[go_sem] theorem fld_27_8 : fldOf Tryz.prog 27 8 = some (10, 1) := rfl
@[go_sem high] theorem fa_27_8 (id g i c : Nat) : aFieldAddr Tryz.prog 27 (.ptr id g i c) 8 = some (True, .ptr id g i (c + 10)) := fieldAddr_ptr (n := 0) rfl id g i c
@[go_sem high] theorem ff_27_8 (cs : List AV) : aFieldAddr Tryz.prog 27 (.fptr cs) 8 = some (10 ≤ cs.length, .fptr (cs.drop 10)) := fieldAddr_fptr (n := 0) rfl cs
@[go_sem high] theorem fv_27_8 (cs : List AV) : aField Tryz.prog 27 (.agg cs) 8 = aPart Tryz.prog 24 cs 10 := field_agg rfl cs
@[go_sem] theorem fld_27_9 : fldOf Tryz.prog 27 9 = some (11, 1) := rfl
@[go_sem high] theorem fa_27_9 (id g i c : Nat) : aFieldAddr Tryz.prog 27 (.ptr id g i c) 9 = some (True, .ptr id g i (c + 11)) := fieldAddr_ptr (n := 0) rfl id g i c
@[go_sem high] theorem ff_27_9 (cs : List AV) : aFieldAddr Tryz.prog 27 (.fptr cs) 9 = some (11 ≤ cs.length, .fptr (cs.drop 11)) := fieldAddr_fptr (n := 0) rfl cs
@[go_sem high] theorem fv_27_9 (cs : List AV) : aField Tryz.prog 27 (.agg cs) 9 = aPart Tryz.prog 3 cs 11 := field_agg rfl cs
@[go_sem high] theorem fa_52_0 (id g i c : Nat) : aFieldAddr Tryz.prog 52 (.ptr id g i c) 0 = some (True, .ptr id g i (c + 0)) := fieldAddr_ptr (n := 0) rfl id g i c
@[go_sem high] theorem ff_52_0 (cs : List AV) : aFieldAddr Tryz.prog 52 (.fptr cs) 0 = some (0 ≤ cs.length, .fptr (cs.drop 0)) := fieldAddr_fptr (n := 0) rfl cs
@[go_sem high] theorem fv_52_0 (cs : List AV) : aField Tryz.prog 52 (.agg cs) 0 = aPart Tryz.prog 3 cs 0 := field_agg rfl cs
@[go_sem high] theorem fa_52_1 (id g i c : Nat) : aFieldAddr Tryz.prog 52 (.ptr id g i c) 1 = some (True, .ptr id g i (c + 1)) := fieldAddr_ptr (n := 0) rfl id g i c
@[go_sem high] theorem ff_52_1 (cs : List AV) : aFieldAddr Tryz.prog 52 (.fptr cs) 1 = some (1 ≤ cs.length, .fptr (cs.drop 1)) := fieldAddr_fptr (n := 0) rfl cs
@[go_sem high] theorem fv_52_1 (cs : List AV) : aField Tryz.prog 52 (.agg cs) 1 = aPart Tryz.prog 3 cs 1 := field_agg rfl cs
@[go_sem] theorem fld_53_0 : fldOf Tryz.prog 53 0 = some (0, 1) := rfl
@[go_sem high] theorem fa_53_0 (id g i c : Nat) : aFieldAddr Tryz.prog 53 (.ptr id g i c) 0 = some (True, .ptr id g i (c + 0)) := fieldAddr_ptr (n := 0) rfl id g i c
@[go_sem high] theorem ff_53_0 (cs : List AV) : aFieldAddr Tryz.prog 53 (.fptr cs) 0 = some (0 ≤ cs.length, .fptr (cs.drop 0)) := fieldAddr_fptr (n := 0) rfl cs
@[go_sem high] theorem fv_53_0 (cs : List AV) : aField Tryz.prog 53 (.agg cs) 0 = aPart Tryz.prog 3 cs 0 := field_agg rfl cs
@[go_sem] theorem fld_53_1 : fldOf Tryz.prog 53 1 = some (1, 1) := rfl
@[go_sem high] theorem fa_53_1 (id g i c : Nat) : aFieldAddr Tryz.prog 53 (.ptr id g i c) 1 = some (True, .ptr id g i (c + 1)) := fieldAddr_ptr (n := 0) rfl id g i c
@[go_sem high] theorem ff_53_1 (cs : List AV) : aFieldAddr Tryz.prog 53 (.fptr cs) 1 = some (1 ≤ cs.length, .fptr (cs.drop 1)) := fieldAddr_fptr (n := 0) rfl cs
@[go_sem high] theorem fv_53_1 (cs : List AV) : aField Tryz.prog 53 (.agg cs) 1 = aPart Tryz.prog 3 cs 1 := field_agg rfl cs
@[go_sem high] theorem fa_59_0 (id g i c : Nat) : aFieldAddr Tryz.prog 59 (.ptr id g i c) 0 = some (True, .ptr id g i (c + 0)) := fieldAddr_ptr (n := 11) rfl id g i c
@[go_sem high] theorem ff_59_0 (cs : List AV) : aFieldAddr Tryz.prog 59 (.fptr cs) 0 = some (0 ≤ cs.length, .fptr (cs.drop 0)) := fieldAddr_fptr (n := 11) rfl cs
@[go_sem high] theorem fv_59_0 (cs : List AV) : aField Tryz.prog 59 (.agg cs) 0 = aPart Tryz.prog 27 cs 0 := field_agg rfl cs
@[go_sem high] theorem fa_59_1 (id g i c : Nat) : aFieldAddr Tryz.prog 59 (.ptr id g i c) 1 = some (True, .ptr id g i (c + 12)) := fieldAddr_ptr (n := 0) rfl id g i c
@[go_sem high] theorem ff_59_1 (cs : List AV) : aFieldAddr Tryz.prog 59 (.fptr cs) 1 = some (12 ≤ cs.length, .fptr (cs.drop 12)) := fieldAddr_fptr (n := 0) rfl cs
@[go_sem high] theorem fv_59_1 (cs : List AV) : aField Tryz.prog 59 (.agg cs) 1 = aPart Tryz.prog 2 cs 12 := field_agg rfl cs
@[go_sem high] theorem fa_59_2 (id g i c : Nat) : aFieldAddr Tryz.prog 59 (.ptr id g i c) 2 = some (True, .ptr id g i (c + 13)) := fieldAddr_ptr (n := 0) rfl id g i c
@[go_sem high] theorem ff_59_2 (cs : List AV) : aFieldAddr Tryz.prog 59 (.fptr cs) 2 = some (13 ≤ cs.length, .fptr (cs.drop 13)) := fieldAddr_fptr (n := 0) rfl cs
@[go_sem high] theorem fv_59_2 (cs : List AV) : aField Tryz.prog 59 (.agg cs) 2 = aPart Tryz.prog 2 cs 13 := field_agg rfl cs
@[go_sem high] theorem fa_59_3 (id g i c : Nat) : aFieldAddr Tryz.prog 59 (.ptr id g i c) 3 = some (True, .ptr id g i (c + 14)) := fieldAddr_ptr (n := 0) rfl id g i c
@[go_sem high] theorem ff_59_3 (cs : List AV) : aFieldAddr Tryz.prog 59 (.fptr cs) 3 = some (14 ≤ cs.length, .fptr (cs.drop 14)) := fieldAddr_fptr (n := 0) rfl cs
@[go_sem high] theorem fv_59_3 (cs : List AV) : aField Tryz.prog 59 (.agg cs) 3 = aPart Tryz.prog 2 cs 14 := field_agg rfl cs
@[go_sem high] theorem fa_59_4 (id g i c : Nat) : aFieldAddr Tryz.prog 59 (.ptr id g i c) 4 = some (True, .ptr id g i (c + 15)) := fieldAddr_ptr (n := 0) rfl id g i c
@[go_sem high] theorem ff_59_4 (cs : List AV) : aFieldAddr Tryz.prog 59 (.fptr cs) 4 = some (15 ≤ cs.length, .fptr (cs.drop 15)) := fieldAddr_fptr (n := 0) rfl cs
@[go_sem high] theorem fv_59_4 (cs : List AV) : aField Tryz.prog 59 (.agg cs) 4 = aPart Tryz.prog 3 cs 15 := field_agg rfl cs
@[go_sem high] theorem fa_59_5 (id g i c : Nat) : aFieldAddr Tryz.prog 59 (.ptr id g i c) 5 = some (True, .ptr id g i (c + 16)) := fieldAddr_ptr (n := 0) rfl id g i c
@[go_sem high] theorem ff_59_5 (cs : List AV) : aFieldAddr Tryz.prog 59 (.fptr cs) 5 = some (16 ≤ cs.length, .fptr (cs.drop 16)) := fieldAddr_fptr (n := 0) rfl cs
@[go_sem high] theorem fv_59_5 (cs : List AV) : aField Tryz.prog 59 (.agg cs) 5 = aPart Tryz.prog 3 cs 16 := field_agg rfl cs
@[go_sem high] theorem fa_59_6 (id g i c : Nat) : aFieldAddr Tryz.prog 59 (.ptr id g i c) 6 = some (True, .ptr id g i (c + 17)) := fieldAddr_ptr (n := 0) rfl id g i c
@[go_sem high] theorem ff_59_6 (cs : List AV) : aFieldAddr Tryz.prog 59 (.fptr cs) 6 = some (17 ≤ cs.length, .fptr (cs.drop 17)) := fieldAddr_fptr (n := 0) rfl cs
@[go_sem high] theorem fv_59_6 (cs : List AV) : aField Tryz.prog 59 (.agg cs) 6 = aPart Tryz.prog 3 cs 17 := field_agg rfl cs
@[go_sem] theorem fld_60_0 : fldOf Tryz.prog 60 0 = some (0, 12) := rfl
@[go_sem high] theorem fa_60_0 (id g i c : Nat) : aFieldAddr Tryz.prog 60 (.ptr id g i c) 0 = some (True, .ptr id g i (c + 0)) := fieldAddr_ptr (n := 11) rfl id g i c
@[go_sem high] theorem ff_60_0 (cs : List AV) : aFieldAddr Tryz.prog 60 (.fptr cs) 0 = some (0 ≤ cs.length, .fptr (cs.drop 0)) := fieldAddr_fptr (n := 11) rfl cs
@[go_sem high] theorem fv_60_0 (cs : List AV) : aField Tryz.prog 60 (.agg cs) 0 = aPart Tryz.prog 27 cs 0 := field_agg rfl cs
@[go_sem] theorem fld_60_1 : fldOf Tryz.prog 60 1 = some (12, 1) := rfl
@[go_sem high] theorem fa_60_1 (id g i c : Nat) : aFieldAddr Tryz.prog 60 (.ptr id g i c) 1 = some (True, .ptr id g i (c + 12)) := fieldAddr_ptr (n := 0) rfl id g i c
@[go_sem high] theorem ff_60_1 (cs : List AV) : aFieldAddr Tryz.prog 60 (.fptr cs) 1 = some (12 ≤ cs.length, .fptr (cs.drop 12)) := fieldAddr_fptr (n := 0) rfl cs
@[go_sem high] theorem fv_60_1 (cs : List AV) : aField Tryz.prog 60 (.agg cs) 1 = aPart Tryz.prog 2 cs 12 := field_agg rfl cs
@[go_sem] theorem fld_60_2 : fldOf Tryz.prog 60 2 = some (13, 1) := rfl
@[go_sem high] theorem fa_60_2 (id g i c : Nat) : aFieldAddr Tryz.prog 60 (.ptr id g i c) 2 = some (True, .ptr id g i (c + 13)) := fieldAddr_ptr (n := 0) rfl id g i c
@[go_sem high] theorem ff_60_2 (cs : List AV) : aFieldAddr Tryz.prog 60 (.fptr cs) 2 = some (13 ≤ cs.length, .fptr (cs.drop 13)) := fieldAddr_fptr (n := 0) rfl cs
@[go_sem high] theorem fv_60_2 (cs : List AV) : aField Tryz.prog 60 (.agg cs) 2 = aPart Tryz.prog 2 cs 13 := field_agg rfl cs
@[go_sem] theorem fld_60_3 : fldOf Tryz.prog 60 3 = some (14, 1) := rfl
@[go_sem high] theorem fa_60_3 (id g i c : Nat) : aFieldAddr Tryz.prog 60 (.ptr id g i c) 3 = some (True, .ptr id g i (c + 14)) := fieldAddr_ptr (n := 0) rfl id g i c
@[go_sem high] theorem ff_60_3 (cs : List AV) : aFieldAddr Tryz.prog 60 (.fptr cs) 3 = some (14 ≤ cs.length, .fptr (cs.drop 14)) := fieldAddr_fptr (n := 0) rfl cs
@[go_sem high] theorem fv_60_3 (cs : List AV) : aField Tryz.prog 60 (.agg cs) 3 = aPart Tryz.prog 2 cs 14 := field_agg rfl cs
@[go_sem] theorem fld_60_4 : fldOf Tryz.prog 60 4 = some (15, 1) := rfl
@[go_sem high] theorem fa_60_4 (id g i c : Nat) : aFieldAddr Tryz.prog 60 (.ptr id g i c) 4 = some (True, .ptr id g i (c + 15)) := fieldAddr_ptr (n := 0) rfl id g i c
@[go_sem high] theorem ff_60_4 (cs : List AV) : aFieldAddr Tryz.prog 60 (.fptr cs) 4 = some (15 ≤ cs.length, .fptr (cs.drop 15)) := fieldAddr_fptr (n := 0) rfl cs
@[go_sem high] theorem fv_60_4 (cs : List AV) : aField Tryz.prog 60 (.agg cs) 4 = aPart Tryz.prog 3 cs 15 := field_agg rfl cs
@[go_sem] theorem fld_60_5 : fldOf Tryz.prog 60 5 = some (16, 1) := rfl
@[go_sem high] theorem fa_60_5 (id g i c : Nat) : aFieldAddr Tryz.prog 60 (.ptr id g i c) 5 = some (True, .ptr id g i (c + 16)) := fieldAddr_ptr (n := 0) rfl id g i c
@[go_sem high] theorem ff_60_5 (cs : List AV) : aFieldAddr Tryz.prog 60 (.fptr cs) 5 = some (16 ≤ cs.length, .fptr (cs.drop 16)) := fieldAddr_fptr (n := 0) rfl cs
@[go_sem high] theorem fv_60_5 (cs : List AV) : aField Tryz.prog 60 (.agg cs) 5 = aPart Tryz.prog 3 cs 16 := field_agg rfl cs
@[go_sem] theorem fld_60_6 : fldOf Tryz.prog 60 6 = some (17, 1) := rfl
@[go_sem high] theorem fa_60_6 (id g i c : Nat) : aFieldAddr Tryz.prog 60 (.ptr id g i c) 6 = some (True, .ptr id g i (c + 17)) := fieldAddr_ptr (n := 0) rfl id g i c
@[go_sem high] theorem ff_60_6 (cs : List AV) : aFieldAddr Tryz.prog 60 (.fptr cs) 6 = some (17 ≤ cs.length, .fptr (cs.drop 17)) := fieldAddr_fptr (n := 0) rfl cs
@[go_sem high] theorem fv_60_6 (cs : List AV) : aField Tryz.prog 60 (.agg cs) 6 = aPart Tryz.prog 3 cs 17 := field_agg rfl cs
@[go_sem high] theorem fa_68_0 (id g i c : Nat) : aFieldAddr Tryz.prog 68 (.ptr id g i c) 0 = some (True, .ptr id g i (c + 0)) := fieldAddr_ptr (n := 0) rfl id g i c
@[go_sem high] theorem ff_68_0 (cs : List AV) : aFieldAddr Tryz.prog 68 (.fptr cs) 0 = some (0 ≤ cs.length, .fptr (cs.drop 0)) := fieldAddr_fptr (n := 0) rfl cs
@[go_sem high] theorem fv_68_0 (cs : List AV) : aField Tryz.prog 68 (.agg cs) 0 = aPart Tryz.prog 2 cs 0 := field_agg rfl cs
@[go_sem high] theorem fa_68_1 (id g i c : Nat) : aFieldAddr Tryz.prog 68 (.ptr id g i c) 1 = some (True, .ptr id g i (c + 1)) := fieldAddr_ptr (n := 0) rfl id g i c
@[go_sem high] theorem ff_68_1 (cs : List AV) : aFieldAddr Tryz.prog 68 (.fptr cs) 1 = some (1 ≤ cs.length, .fptr (cs.drop 1)) := fieldAddr_fptr (n := 0) rfl cs
@[go_sem high] theorem fv_68_1 (cs : List AV) : aField Tryz.prog 68 (.agg cs) 1 = aPart Tryz.prog 3 cs 1 := field_agg rfl cs
@[go_sem] theorem fld_69_0 : fldOf Tryz.prog 69 0 = some (0, 1) := rfl
@[go_sem high] theorem fa_69_0 (id g i c : Nat) : aFieldAddr Tryz.prog 69 (.ptr id g i c) 0 = some (True, .ptr id g i (c + 0)) := fieldAddr_ptr (n := 0) rfl id g i c
@[go_sem high] theorem ff_69_0 (cs : List AV) : aFieldAddr Tryz.prog 69 (.fptr cs) 0 = some (0 ≤ cs.length, .fptr (cs.drop 0)) := fieldAddr_fptr (n := 0) rfl cs
@[go_sem high] theorem fv_69_0 (cs : List AV) : aField Tryz.prog 69 (.agg cs) 0 = aPart Tryz.prog 2 cs 0 := field_agg rfl cs
@[go_sem] theorem fld_69_1 : fldOf Tryz.prog 69 1 = some (1, 1) := rfl
@[go_sem high] theorem fa_69_1 (id g i c : Nat) : aFieldAddr Tryz.prog 69 (.ptr id g i c) 1 = some (True, .ptr id g i (c + 1)) := fieldAddr_ptr (n := 0) rfl id g i c
@[go_sem high] theorem ff_69_1 (cs : List AV) : aFieldAddr Tryz.prog 69 (.fptr cs) 1 = some (1 ≤ cs.length, .fptr (cs.drop 1)) := fieldAddr_fptr (n := 0) rfl cs
@[go_sem high] theorem fv_69_1 (cs : List AV) : aField Tryz.prog 69 (.agg cs) 1 = aPart Tryz.prog 3 cs 1 := field_agg rfl cs
@[go_sem high] theorem fa_74_0 (id g i c : Nat) : aFieldAddr Tryz.prog 74 (.ptr id g i c) 0 = some (True, .ptr id g i (c + 0)) := fieldAddr_ptr (n := 11) rfl id g i c
@[go_sem high] theorem ff_74_0 (cs : List AV) : aFieldAddr Tryz.prog 74 (.fptr cs) 0 = some (0 ≤ cs.length, .fptr (cs.drop 0)) := fieldAddr_fptr (n := 11) rfl cs
@[go_sem high] theorem fv_74_0 (cs : List AV) : aField Tryz.prog 74 (.agg cs) 0 = aPart Tryz.prog 27 cs 0 := field_agg rfl cs
@[go_sem high] theorem fa_74_1 (id g i c : Nat) : aFieldAddr Tryz.prog 74 (.ptr id g i c) 1 = some (True, .ptr id g i (c + 12)) := fieldAddr_ptr (n := 0) rfl id g i c
@[go_sem high] theorem ff_74_1 (cs : List AV) : aFieldAddr Tryz.prog 74 (.fptr cs) 1 = some (12 ≤ cs.length, .fptr (cs.drop 12)) := fieldAddr_fptr (n := 0) rfl cs
@[go_sem high] theorem fv_74_1 (cs : List AV) : aField Tryz.prog 74 (.agg cs) 1 = aPart Tryz.prog 2 cs 12 := field_agg rfl cs
@[go_sem high] theorem fa_74_2 (id g i c : Nat) : aFieldAddr Tryz.prog 74 (.ptr id g i c) 2 = some (True, .ptr id g i (c + 13)) := fieldAddr_ptr (n := 0) rfl id g i c
@[go_sem high] theorem ff_74_2 (cs : List AV) : aFieldAddr Tryz.prog 74 (.fptr cs) 2 = some (13 ≤ cs.length, .fptr (cs.drop 13)) := fieldAddr_fptr (n := 0) rfl cs
@[go_sem high] theorem fv_74_2 (cs : List AV) : aField Tryz.prog 74 (.agg cs) 2 = aPart Tryz.prog 2 cs 13 := field_agg rfl cs
@[go_sem high] theorem fa_74_3 (id g i c : Nat) : aFieldAddr Tryz.prog 74 (.ptr id g i c) 3 = some (True, .ptr id g i (c + 14)) := fieldAddr_ptr (n := 0) rfl id g i c
@[go_sem high] theorem ff_74_3 (cs : List AV) : aFieldAddr Tryz.prog 74 (.fptr cs) 3 = some (14 ≤ cs.length, .fptr (cs.drop 14)) := fieldAddr_fptr (n := 0) rfl cs
@[go_sem high] theorem fv_74_3 (cs : List AV) : aField Tryz.prog 74 (.agg cs) 3 = aPart Tryz.prog 3 cs 14 := field_agg rfl cs
@[go_sem high] theorem fa_74_4 (id g i c : Nat) : aFieldAddr Tryz.prog 74 (.ptr id g i c) 4 = some (True, .ptr id g i (c + 15)) := fieldAddr_ptr (n := 0) rfl id g i c
@[go_sem high] theorem ff_74_4 (cs : List AV) : aFieldAddr Tryz.prog 74 (.fptr cs) 4 = some (15 ≤ cs.length, .fptr (cs.drop 15)) := fieldAddr_fptr (n := 0) rfl cs
@[go_sem high] theorem fv_74_4 (cs : List AV) : aField Tryz.prog 74 (.agg cs) 4 = aPart Tryz.prog 3 cs 15 := field_agg rfl cs
@[go_sem high] theorem fa_74_5 (id g i c : Nat) : aFieldAddr Tryz.prog 74 (.ptr id g i c) 5 = some (True, .ptr id g i (c + 16)) := fieldAddr_ptr (n := 0) rfl id g i c
@[go_sem high] theorem ff_74_5 (cs : List AV) : aFieldAddr Tryz.prog 74 (.fptr cs) 5 = some (16 ≤ cs.length, .fptr (cs.drop 16)) := fieldAddr_fptr (n := 0) rfl cs
@[go_sem high] theorem fv_74_5 (cs : List AV) : aField Tryz.prog 74 (.agg cs) 5 = aPart Tryz.prog 3 cs 16 := field_agg rfl cs
@[go_sem] theorem fld_75_0 : fldOf Tryz.prog 75 0 = some (0, 12) := rfl
@[go_sem high] theorem fa_75_0 (id g i c : Nat) : aFieldAddr Tryz.prog 75 (.ptr id g i c) 0 = some (True, .ptr id g i (c + 0)) := fieldAddr_ptr (n := 11) rfl id g i c
@[go_sem high] theorem ff_75_0 (cs : List AV) : aFieldAddr Tryz.prog 75 (.fptr cs) 0 = some (0 ≤ cs.length, .fptr (cs.drop 0)) := fieldAddr_fptr (n := 11) rfl cs
@[go_sem high] theorem fv_75_0 (cs : List AV) : aField Tryz.prog 75 (.agg cs) 0 = aPart Tryz.prog 27 cs 0 := field_agg rfl cs
@[go_sem] theorem fld_75_1 : fldOf Tryz.prog 75 1 = some (12, 1) := rfl
@[go_sem high] theorem fa_75_1 (id g i c : Nat) : aFieldAddr Tryz.prog 75 (.ptr id g i c) 1 = some (True, .ptr id g i (c + 12)) := fieldAddr_ptr (n := 0) rfl id g i c
@[go_sem high] theorem ff_75_1 (cs : List AV) : aFieldAddr Tryz.prog 75 (.fptr cs) 1 = some (12 ≤ cs.length, .fptr (cs.drop 12)) := fieldAddr_fptr (n := 0) rfl cs
@[go_sem high] theorem fv_75_1 (cs : List AV) : aField Tryz.prog 75 (.agg cs) 1 = aPart Tryz.prog 2 cs 12 := field_agg rfl cs
@[go_sem] theorem fld_75_2 : fldOf Tryz.prog 75 2 = some (13, 1) := rfl
@[go_sem high] theorem fa_75_2 (id g i c : Nat) : aFieldAddr Tryz.prog 75 (.ptr id g i c) 2 = some (True, .ptr id g i (c + 13)) := fieldAddr_ptr (n := 0) rfl id g i c
@[go_sem high] theorem ff_75_2 (cs : List AV) : aFieldAddr Tryz.prog 75 (.fptr cs) 2 = some (13 ≤ cs.length, .fptr (cs.drop 13)) := fieldAddr_fptr (n := 0) rfl cs
@[go_sem high] theorem fv_75_2 (cs : List AV) : aField Tryz.prog 75 (.agg cs) 2 = aPart Tryz.prog 2 cs 13 := field_agg rfl cs
@[go_sem] theorem fld_75_3 : fldOf Tryz.prog 75 3 = some (14, 1) := rfl
@[go_sem high] theorem fa_75_3 (id g i c : Nat) : aFieldAddr Tryz.prog 75 (.ptr id g i c) 3 = some (True, .ptr id g i (c + 14)) := fieldAddr_ptr (n := 0) rfl id g i c
@[go_sem high] theorem ff_75_3 (cs : List AV) : aFieldAddr Tryz.prog 75 (.fptr cs) 3 = some (14 ≤ cs.length, .fptr (cs.drop 14)) := fieldAddr_fptr (n := 0) rfl cs
@[go_sem high] theorem fv_75_3 (cs : List AV) : aField Tryz.prog 75 (.agg cs) 3 = aPart Tryz.prog 3 cs 14 := field_agg rfl cs
@[go_sem] theorem fld_75_4 : fldOf Tryz.prog 75 4 = some (15, 1) := rfl
@[go_sem high] theorem fa_75_4 (id g i c : Nat) : aFieldAddr Tryz.prog 75 (.ptr id g i c) 4 = some (True, .ptr id g i (c + 15)) := fieldAddr_ptr (n := 0) rfl id g i c
@[go_sem high] theorem ff_75_4 (cs : List AV) : aFieldAddr Tryz.prog 75 (.fptr cs) 4 = some (15 ≤ cs.length, .fptr (cs.drop 15)) := fieldAddr_fptr (n := 0) rfl cs
@[go_sem high] theorem fv_75_4 (cs : List AV) : aField Tryz.prog 75 (.agg cs) 4 = aPart Tryz.prog 3 cs 15 := field_agg rfl cs
@[go_sem] theorem fld_75_5 : fldOf Tryz.prog 75 5 = some (16, 1) := rfl
@[go_sem high] theorem fa_75_5 (id g i c : Nat) : aFieldAddr Tryz.prog 75 (.ptr id g i c) 5 = some (True, .ptr id g i (c + 16)) := fieldAddr_ptr (n := 0) rfl id g i c
@[go_sem high] theorem ff_75_5 (cs : List AV) : aFieldAddr Tryz.prog 75 (.fptr cs) 5 = some (16 ≤ cs.length, .fptr (cs.drop 16)) := fieldAddr_fptr (n := 0) rfl cs
@[go_sem high] theorem fv_75_5 (cs : List AV) : aField Tryz.prog 75 (.agg cs) 5 = aPart Tryz.prog 3 cs 16 := field_agg rfl cs
@[go_sem high] theorem fa_119_0 (id g i c : Nat) : aFieldAddr Tryz.prog 119 (.ptr id g i c) 0 = some (True, .ptr id g i (c + 0)) := fieldAddr_ptr (n := 0) rfl id g i c
@[go_sem high] theorem ff_119_0 (cs : List AV) : aFieldAddr Tryz.prog 119 (.fptr cs) 0 = some (0 ≤ cs.length, .fptr (cs.drop 0)) := fieldAddr_fptr (n := 0) rfl cs
@[go_sem high] theorem fv_119_0 (cs : List AV) : aField Tryz.prog 119 (.agg cs) 0 = aPart Tryz.prog 118 cs 0 := field_agg rfl cs
@[go_sem high] theorem fa_119_1 (id g i c : Nat) : aFieldAddr Tryz.prog 119 (.ptr id g i c) 1 = some (True, .ptr id g i (c + 1)) := fieldAddr_ptr (n := 0) rfl id g i c
@[go_sem high] theorem ff_119_1 (cs : List AV) : aFieldAddr Tryz.prog 119 (.fptr cs) 1 = some (1 ≤ cs.length, .fptr (cs.drop 1)) := fieldAddr_fptr (n := 0) rfl cs
@[go_sem high] theorem fv_119_1 (cs : List AV) : aField Tryz.prog 119 (.agg cs) 1 = aPart Tryz.prog 111 cs 1 := field_agg rfl cs
@[go_sem] theorem fld_120_0 : fldOf Tryz.prog 120 0 = some (0, 1) := rfl
@[go_sem high] theorem fa_120_0 (id g i c : Nat) : aFieldAddr Tryz.prog 120 (.ptr id g i c) 0 = some (True, .ptr id g i (c + 0)) := fieldAddr_ptr (n := 0) rfl id g i c
@[go_sem high] theorem ff_120_0 (cs : List AV) : aFieldAddr Tryz.prog 120 (.fptr cs) 0 = some (0 ≤ cs.length, .fptr (cs.drop 0)) := fieldAddr_fptr (n := 0) rfl cs
@[go_sem high] theorem fv_120_0 (cs : List AV) : aField Tryz.prog 120 (.agg cs) 0 = aPart Tryz.prog 118 cs 0 := field_agg rfl cs
@[go_sem] theorem fld_120_1 : fldOf Tryz.prog 120 1 = some (1, 1) := rfl
@[go_sem high] theorem fa_120_1 (id g i c : Nat) : aFieldAddr Tryz.prog 120 (.ptr id g i c) 1 = some (True, .ptr id g i (c + 1)) := fieldAddr_ptr (n := 0) rfl id g i c
@[go_sem high] theorem ff_120_1 (cs : List AV) : aFieldAddr Tryz.prog 120 (.fptr cs) 1 = some (1 ≤ cs.length, .fptr (cs.drop 1)) := fieldAddr_fptr (n := 0) rfl cs
@[go_sem high] theorem fv_120_1 (cs : List AV) : aField Tryz.prog 120 (.agg cs) 1 = aPart Tryz.prog 111 cs 1 := field_agg rfl cs
@[go_sem high] theorem fa_151_0 (id g i c : Nat) : aFieldAddr Tryz.prog 151 (.ptr id g i c) 0 = some (True, .ptr id g i (c + 0)) := fieldAddr_ptr (n := 0) rfl id g i c
@[go_sem high] theorem ff_151_0 (cs : List AV) : aFieldAddr Tryz.prog 151 (.fptr cs) 0 = some (0 ≤ cs.length, .fptr (cs.drop 0)) := fieldAddr_fptr (n := 0) rfl cs
@[go_sem high] theorem fv_151_0 (cs : List AV) : aField Tryz.prog 151 (.agg cs) 0 = aPart Tryz.prog 17 cs 0 := field_agg rfl cs
@[go_sem high] theorem fa_151_1 (id g i c : Nat) : aFieldAddr Tryz.prog 151 (.ptr id g i c) 1 = some (True, .ptr id g i (c + 1)) := fieldAddr_ptr (n := 0) rfl id g i c
@[go_sem high] theorem ff_151_1 (cs : List AV) : aFieldAddr Tryz.prog 151 (.fptr cs) 1 = some (1 ≤ cs.length, .fptr (cs.drop 1)) := fieldAddr_fptr (n := 0) rfl cs
@[go_sem high] theorem fv_151_1 (cs : List AV) : aField Tryz.prog 151 (.agg cs) 1 = aPart Tryz.prog 17 cs 1 := field_agg rfl cs
@[go_sem high] theorem fa_151_2 (id g i c : Nat) : aFieldAddr Tryz.prog 151 (.ptr id g i c) 2 = some (True, .ptr id g i (c + 2)) := fieldAddr_ptr (n := 0) rfl id g i c
@[go_sem high] theorem ff_151_2 (cs : List AV) : aFieldAddr Tryz.prog 151 (.fptr cs) 2 = some (2 ≤ cs.length, .fptr (cs.drop 2)) := fieldAddr_fptr (n := 0) rfl cs
@[go_sem high] theorem fv_151_2 (cs : List AV) : aField Tryz.prog 151 (.agg cs) 2 = aPart Tryz.prog 17 cs 2 := field_agg rfl cs
@[go_sem high] theorem fa_151_3 (id g i c : Nat) : aFieldAddr Tryz.prog 151 (.ptr id g i c) 3 = some (True, .ptr id g i (c + 3)) := fieldAddr_ptr (n := 0) rfl id g i c
@[go_sem high] theorem ff_151_3 (cs : List AV) : aFieldAddr Tryz.prog 151 (.fptr cs) 3 = some (3 ≤ cs.length, .fptr (cs.drop 3)) := fieldAddr_fptr (n := 0) rfl cs
@[go_sem high] theorem fv_151_3 (cs : List AV) : aField Tryz.prog 151 (.agg cs) 3 = aPart Tryz.prog 9 cs 3 := field_agg rfl cs
@[go_sem high] theorem fa_152_0 (id g i c : Nat) : aFieldAddr Tryz.prog 152 (.ptr id g i c) 0 = some (True, .ptr id g i (c + 0)) := fieldAddr_ptr (n := 0) rfl id g i c
@[go_sem high] theorem ff_152_0 (cs : List AV) : aFieldAddr Tryz.prog 152 (.fptr cs) 0 = some (0 ≤ cs.length, .fptr (cs.drop 0)) := fieldAddr_fptr (n := 0) rfl cs
@[go_sem high] theorem fv_152_0 (cs : List AV) : aField Tryz.prog 152 (.agg cs) 0 = aPart Tryz.prog 17 cs 0 := field_agg rfl cs
@[go_sem high] theorem fa_152_1 (id g i c : Nat) : aFieldAddr Tryz.prog 152 (.ptr id g i c) 1 = some (True, .ptr id g i (c + 1)) := fieldAddr_ptr (n := 0) rfl id g i c
@[go_sem high] theorem ff_152_1 (cs : List AV) : aFieldAddr Tryz.prog 152 (.fptr cs) 1 = some (1 ≤ cs.length, .fptr (cs.drop 1)) := fieldAddr_fptr (n := 0) rfl cs
@[go_sem high] theorem fv_152_1 (cs : List AV) : aField Tryz.prog 152 (.agg cs) 1 = aPart Tryz.prog 17 cs 1 := field_agg rfl cs
@[go_sem high] theorem fa_152_2 (id g i c : Nat) : aFieldAddr Tryz.prog 152 (.ptr id g i c) 2 = some (True, .ptr id g i (c + 2)) := fieldAddr_ptr (n := 0) rfl id g i c
@[go_sem high] theorem ff_152_2 (cs : List AV) : aFieldAddr Tryz.prog 152 (.fptr cs) 2 = some (2 ≤ cs.length, .fptr (cs.drop 2)) := fieldAddr_fptr (n := 0) rfl cs
@[go_sem high] theorem fv_152_2 (cs : List AV) : aField Tryz.prog 152 (.agg cs) 2 = aPart Tryz.prog 17 cs 2 := field_agg rfl cs
@[go_sem high] theorem fa_152_3 (id g i c : Nat) : aFieldAddr Tryz.prog 152 (.ptr id g i c) 3 = some (True, .ptr id g i (c + 3)) := fieldAddr_ptr (n := 0) rfl id g i c
@[go_sem high] theorem ff_152_3 (cs : List AV) : aFieldAddr Tryz.prog 152 (.fptr cs) 3 = some (3 ≤ cs.length, .fptr (cs.drop 3)) := fieldAddr_fptr (n := 0) rfl cs
@[go_sem high] theorem fv_152_3 (cs : List AV) : aField Tryz.prog 152 (.agg cs) 3 = aPart Tryz.prog 9 cs 3 := field_agg rfl cs
@[go_sem high] theorem fv_154_0 (cs : List AV) : aField Tryz.prog 154 (.agg cs) 0 = aPart Tryz.prog 153 cs 0 := field_agg rfl cs
@[go_sem high] theorem fv_155_0 (cs : List AV) : aField Tryz.prog 155 (.agg cs) 0 = aPart Tryz.prog 153 cs 0 := field_agg rfl cs
end Go.Almanac
