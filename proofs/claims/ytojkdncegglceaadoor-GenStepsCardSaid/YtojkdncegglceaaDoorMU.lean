/- The types, as equations (written by types.py). -/
import Derived.Test.YtojkdncegglceaaDoorProg
import Derived.Test.YtojkdncegglceaaDoorM2
/- The types, as equations (written by types.py). -/
namespace Go.Almanac
open Go.RowKit Go.Proofs Go.Abs
set_option maxRecDepth 1000000

@[go_sem] theorem aggT_0 : aggT Tryd.prog 0 = some false := rfl
@[go_sem] theorem tsz_0 : tsz Tryd.prog 0 = some 1 := rfl
@[go_sem] theorem hasZero_0 : hasZero Tryd.prog 0 = some 1 := rfl
@[go_sem] theorem tby_0 : tby Tryd.prog 0 = some 0 := rfl
@[go_sem] theorem zro_0 : zeroC Tryd.prog 0 = some [Abs.AV.tup []] := rfl
@[go_sem] theorem und_2 : Tryd.prog.underlying 2 = some (.int .i64) := rfl
@[go_sem] theorem aggT_2 : aggT Tryd.prog 2 = some false := rfl
@[go_sem] theorem tsz_2 : tsz Tryd.prog 2 = some 1 := rfl
@[go_sem] theorem hasZero_2 : hasZero Tryd.prog 2 = some 1 := rfl
@[go_sem] theorem tby_2 : tby Tryd.prog 2 = some 8 := rfl
@[go_sem] theorem zro_2 : zeroC Tryd.prog 2 = some [Abs.AV.int IntKind.i64 0] := rfl
@[go_sem] theorem und_3 : Tryd.prog.underlying 3 = some (.int .i64) := rfl
@[go_sem] theorem aggT_3 : aggT Tryd.prog 3 = some false := rfl
@[go_sem] theorem tsz_3 : tsz Tryd.prog 3 = some 1 := rfl
@[go_sem] theorem hasZero_3 : hasZero Tryd.prog 3 = some 1 := rfl
@[go_sem] theorem tby_3 : tby Tryd.prog 3 = some 8 := rfl
@[go_sem] theorem zro_3 : zeroC Tryd.prog 3 = some [Abs.AV.int IntKind.i64 0] := rfl
@[go_sem] theorem und_4 : Tryd.prog.underlying 4 = some (.bool) := rfl
@[go_sem] theorem aggT_4 : aggT Tryd.prog 4 = some false := rfl
@[go_sem] theorem tsz_4 : tsz Tryd.prog 4 = some 1 := rfl
@[go_sem] theorem hasZero_4 : hasZero Tryd.prog 4 = some 1 := rfl
@[go_sem] theorem tby_4 : tby Tryd.prog 4 = some 1 := rfl
@[go_sem] theorem zro_4 : zeroC Tryd.prog 4 = some [Abs.AV.bool false] := rfl
@[go_sem] theorem und_5 : Tryd.prog.underlying 5 = some (.int .u8) := rfl
@[go_sem] theorem aggT_5 : aggT Tryd.prog 5 = some false := rfl
@[go_sem] theorem tsz_5 : tsz Tryd.prog 5 = some 1 := rfl
@[go_sem] theorem hasZero_5 : hasZero Tryd.prog 5 = some 1 := rfl
@[go_sem] theorem tby_5 : tby Tryd.prog 5 = some 1 := rfl
@[go_sem] theorem zro_5 : zeroC Tryd.prog 5 = some [Abs.AV.int IntKind.u8 0] := rfl
@[go_sem] theorem und_9 : Tryd.prog.underlying 9 = some (.string) := rfl
@[go_sem] theorem aggT_9 : aggT Tryd.prog 9 = some false := rfl
@[go_sem] theorem tsz_9 : tsz Tryd.prog 9 = some 1 := rfl
@[go_sem] theorem hasZero_9 : hasZero Tryd.prog 9 = some 1 := rfl
@[go_sem] theorem tby_9 : tby Tryd.prog 9 = some 16 := rfl
@[go_sem] theorem zro_9 : zeroC Tryd.prog 9 = some [Abs.AV.str []] := rfl
@[go_sem] theorem aggT_20 : aggT Tryd.prog 20 = some false := rfl
@[go_sem] theorem tsz_20 : tsz Tryd.prog 20 = some 1 := rfl
@[go_sem] theorem hasZero_20 : hasZero Tryd.prog 20 = some 1 := rfl
@[go_sem] theorem tby_20 : tby Tryd.prog 20 = some 16 := rfl
@[go_sem] theorem zro_20 : zeroC Tryd.prog 20 = some [Abs.AV.nili] := rfl
@[go_sem] theorem und_22 : Tryd.prog.underlying 22 = some (.int .u64) := rfl
@[go_sem] theorem aggT_22 : aggT Tryd.prog 22 = some false := rfl
@[go_sem] theorem tsz_22 : tsz Tryd.prog 22 = some 1 := rfl
@[go_sem] theorem hasZero_22 : hasZero Tryd.prog 22 = some 1 := rfl
@[go_sem] theorem tby_22 : tby Tryd.prog 22 = some 8 := rfl
@[go_sem] theorem zro_22 : zeroC Tryd.prog 22 = some [Abs.AV.int IntKind.u64 0] := rfl
@[go_sem] theorem und_23 : Tryd.prog.underlying 23 = some (.slice 29) := rfl
@[go_sem] theorem aggT_23 : aggT Tryd.prog 23 = some false := rfl
@[go_sem] theorem tsz_23 : tsz Tryd.prog 23 = some 1 := rfl
@[go_sem] theorem hasZero_23 : hasZero Tryd.prog 23 = some 1 := rfl
@[go_sem] theorem tby_23 : tby Tryd.prog 23 = some 24 := rfl
@[go_sem] theorem zro_23 : zeroC Tryd.prog 23 = some [Abs.AV.nils] := rfl
@[go_sem] theorem und_26 : Tryd.prog.underlying 26 = some (.slice 37) := rfl
@[go_sem] theorem aggT_26 : aggT Tryd.prog 26 = some false := rfl
@[go_sem] theorem tsz_26 : tsz Tryd.prog 26 = some 1 := rfl
@[go_sem] theorem hasZero_26 : hasZero Tryd.prog 26 = some 1 := rfl
@[go_sem] theorem tby_26 : tby Tryd.prog 26 = some 24 := rfl
@[go_sem] theorem zro_26 : zeroC Tryd.prog 26 = some [Abs.AV.nils] := rfl
@[go_sem] theorem und_27 : Tryd.prog.underlying 27 = some (.slice 3) := rfl
@[go_sem] theorem aggT_27 : aggT Tryd.prog 27 = some false := rfl
@[go_sem] theorem tsz_27 : tsz Tryd.prog 27 = some 1 := rfl
@[go_sem] theorem hasZero_27 : hasZero Tryd.prog 27 = some 1 := rfl
@[go_sem] theorem tby_27 : tby Tryd.prog 27 = some 24 := rfl
@[go_sem] theorem zro_27 : zeroC Tryd.prog 27 = some [Abs.AV.nils] := rfl
@[go_sem] theorem aggT_29 : aggT Tryd.prog 29 = some true := rfl
@[go_sem] theorem tsz_29 : tsz Tryd.prog 29 = some 6 := rfl
@[go_sem] theorem hasZero_29 : hasZero Tryd.prog 29 = some 6 := rfl
@[go_sem] theorem tby_29 : tby Tryd.prog 29 = some 88 := rfl
@[go_sem] theorem szs_29 : szsOf Tryd.prog 29 = true := rfl
@[go_sem] theorem zro_29 : zeroC Tryd.prog 29 = some [Abs.AV.int IntKind.i64 0, Abs.AV.int IntKind.i64 0, Abs.AV.str [], Abs.AV.int IntKind.u64 0, Abs.AV.nils, Abs.AV.nils] := rfl
@[go_sem] theorem aggT_35 : aggT Tryd.prog 35 = some true := rfl
@[go_sem] theorem tsz_35 : tsz Tryd.prog 35 = some 6 := rfl
@[go_sem] theorem hasZero_35 : hasZero Tryd.prog 35 = some 6 := rfl
@[go_sem] theorem tby_35 : tby Tryd.prog 35 = some 48 := rfl
@[go_sem] theorem zro_35 : zeroC Tryd.prog 35 = some [Abs.AV.int IntKind.u64 0, Abs.AV.int IntKind.u64 0, Abs.AV.int IntKind.u64 0, Abs.AV.int IntKind.u64 0, Abs.AV.int IntKind.u64 0, Abs.AV.int IntKind.u64 0] := rfl
@[go_sem] theorem und_37 : Tryd.prog.underlying 37 = some (.slice 4) := rfl
@[go_sem] theorem aggT_37 : aggT Tryd.prog 37 = some false := rfl
@[go_sem] theorem tsz_37 : tsz Tryd.prog 37 = some 1 := rfl
@[go_sem] theorem hasZero_37 : hasZero Tryd.prog 37 = some 1 := rfl
@[go_sem] theorem tby_37 : tby Tryd.prog 37 = some 24 := rfl
@[go_sem] theorem zro_37 : zeroC Tryd.prog 37 = some [Abs.AV.nils] := rfl
@[go_sem] theorem und_41 : Tryd.prog.underlying 41 = some (.int .u64) := rfl
@[go_sem] theorem aggT_41 : aggT Tryd.prog 41 = some false := rfl
@[go_sem] theorem tsz_41 : tsz Tryd.prog 41 = some 1 := rfl
@[go_sem] theorem hasZero_41 : hasZero Tryd.prog 41 = some 1 := rfl
@[go_sem] theorem tby_41 : tby Tryd.prog 41 = some 8 := rfl
@[go_sem] theorem zro_41 : zeroC Tryd.prog 41 = some [Abs.AV.int IntKind.u64 0] := rfl
@[go_sem] theorem und_43 : Tryd.prog.underlying 43 = some (.slice 9) := rfl
@[go_sem] theorem aggT_43 : aggT Tryd.prog 43 = some false := rfl
@[go_sem] theorem tsz_43 : tsz Tryd.prog 43 = some 1 := rfl
@[go_sem] theorem hasZero_43 : hasZero Tryd.prog 43 = some 1 := rfl
@[go_sem] theorem tby_43 : tby Tryd.prog 43 = some 24 := rfl
@[go_sem] theorem zro_43 : zeroC Tryd.prog 43 = some [Abs.AV.nils] := rfl
@[go_sem] theorem aggT_44 : aggT Tryd.prog 44 = some true := rfl
@[go_sem] theorem tsz_44 : tsz Tryd.prog 44 = some 4 := rfl
@[go_sem] theorem hasZero_44 : hasZero Tryd.prog 44 = some 4 := rfl
@[go_sem] theorem tby_44 : tby Tryd.prog 44 = some 64 := rfl
@[go_sem] theorem zro_44 : zeroC Tryd.prog 44 = some [Abs.AV.str [], Abs.AV.str [], Abs.AV.str [], Abs.AV.str []] := rfl
@[go_sem] theorem aggT_47 : aggT Tryd.prog 47 = some true := rfl
@[go_sem] theorem tsz_47 : tsz Tryd.prog 47 = some 6 := rfl
@[go_sem] theorem hasZero_47 : hasZero Tryd.prog 47 = some 6 := rfl
@[go_sem] theorem tby_47 : tby Tryd.prog 47 = some 96 := rfl
@[go_sem] theorem zro_47 : zeroC Tryd.prog 47 = some [Abs.AV.str [], Abs.AV.str [], Abs.AV.str [], Abs.AV.str [], Abs.AV.str [], Abs.AV.str []] := rfl
@[go_sem] theorem und_48 : Tryd.prog.underlying 48 = some (.slice 53) := rfl
@[go_sem] theorem aggT_48 : aggT Tryd.prog 48 = some false := rfl
@[go_sem] theorem tsz_48 : tsz Tryd.prog 48 = some 1 := rfl
@[go_sem] theorem hasZero_48 : hasZero Tryd.prog 48 = some 1 := rfl
@[go_sem] theorem tby_48 : tby Tryd.prog 48 = some 24 := rfl
@[go_sem] theorem zro_48 : zeroC Tryd.prog 48 = some [Abs.AV.nils] := rfl
@[go_sem] theorem aggT_50 : aggT Tryd.prog 50 = some true := rfl
@[go_sem] theorem tsz_50 : tsz Tryd.prog 50 = some 4 := rfl
@[go_sem] theorem hasZero_50 : hasZero Tryd.prog 50 = some 4 := rfl
@[go_sem] theorem tby_50 : tby Tryd.prog 50 = some 72 := rfl
@[go_sem] theorem szs_50 : szsOf Tryd.prog 50 = true := rfl
@[go_sem] theorem zro_50 : zeroC Tryd.prog 50 = some [Abs.AV.str [], Abs.AV.str [], Abs.AV.nils, Abs.AV.str []] := rfl
@[go_sem] theorem aggT_53 : aggT Tryd.prog 53 = some true := rfl
@[go_sem] theorem tsz_53 : tsz Tryd.prog 53 = some 2 := rfl
@[go_sem] theorem hasZero_53 : hasZero Tryd.prog 53 = some 2 := rfl
@[go_sem] theorem tby_53 : tby Tryd.prog 53 = some 32 := rfl
@[go_sem] theorem szs_53 : szsOf Tryd.prog 53 = true := rfl
@[go_sem] theorem zro_53 : zeroC Tryd.prog 53 = some [Abs.AV.str [], Abs.AV.str []] := rfl
@[go_sem] theorem aggT_55 : aggT Tryd.prog 55 = some false := rfl
@[go_sem] theorem tsz_55 : tsz Tryd.prog 55 = some 1 := rfl
@[go_sem] theorem hasZero_55 : hasZero Tryd.prog 55 = some 1 := rfl
@[go_sem] theorem tby_55 : tby Tryd.prog 55 = some 8 := rfl
@[go_sem] theorem zro_55 : zeroC Tryd.prog 55 = some [Abs.AV.nilf] := rfl
@[go_sem] theorem aggT_56 : aggT Tryd.prog 56 = some false := rfl
@[go_sem] theorem tsz_56 : tsz Tryd.prog 56 = some 1 := rfl
@[go_sem] theorem hasZero_56 : hasZero Tryd.prog 56 = some 1 := rfl
@[go_sem] theorem tby_56 : tby Tryd.prog 56 = some 8 := rfl
@[go_sem] theorem zro_56 : zeroC Tryd.prog 56 = some [Abs.AV.nilf] := rfl
@[go_sem] theorem aggT_60 : aggT Tryd.prog 60 = some false := rfl
@[go_sem] theorem tsz_60 : tsz Tryd.prog 60 = some 1 := rfl
@[go_sem] theorem hasZero_60 : hasZero Tryd.prog 60 = some 1 := rfl
@[go_sem] theorem tby_60 : tby Tryd.prog 60 = some 0 := rfl
@[go_sem] theorem zro_60 : zeroC Tryd.prog 60 = some [Abs.AV.junk] := rfl
@[go_sem] theorem und_63 : Tryd.prog.underlying 63 = some (.pointer 66) := rfl
@[go_sem] theorem aggT_63 : aggT Tryd.prog 63 = some false := rfl
@[go_sem] theorem tsz_63 : tsz Tryd.prog 63 = some 1 := rfl
@[go_sem] theorem hasZero_63 : hasZero Tryd.prog 63 = some 1 := rfl
@[go_sem] theorem tby_63 : tby Tryd.prog 63 = some 8 := rfl
@[go_sem] theorem zro_63 : zeroC Tryd.prog 63 = some [Abs.AV.nilp] := rfl
@[go_sem] theorem und_64 : Tryd.prog.underlying 64 = some (.slice 5) := rfl
@[go_sem] theorem aggT_64 : aggT Tryd.prog 64 = some false := rfl
@[go_sem] theorem tsz_64 : tsz Tryd.prog 64 = some 1 := rfl
@[go_sem] theorem hasZero_64 : hasZero Tryd.prog 64 = some 1 := rfl
@[go_sem] theorem tby_64 : tby Tryd.prog 64 = some 24 := rfl
@[go_sem] theorem zro_64 : zeroC Tryd.prog 64 = some [Abs.AV.nils] := rfl
@[go_sem] theorem aggT_66 : aggT Tryd.prog 66 = some true := rfl
@[go_sem] theorem tsz_66 : tsz Tryd.prog 66 = some 2 := rfl
@[go_sem] theorem hasZero_66 : hasZero Tryd.prog 66 = some 2 := rfl
@[go_sem] theorem tby_66 : tby Tryd.prog 66 = some 32 := rfl
@[go_sem] theorem szs_66 : szsOf Tryd.prog 66 = true := rfl
@[go_sem] theorem zro_66 : zeroC Tryd.prog 66 = some [Abs.AV.nilp, Abs.AV.nils] := rfl
@[go_sem] theorem aggT_69 : aggT Tryd.prog 69 = some false := rfl
@[go_sem] theorem tsz_69 : tsz Tryd.prog 69 = some 1 := rfl
@[go_sem] theorem hasZero_69 : hasZero Tryd.prog 69 = some 1 := rfl
@[go_sem] theorem tby_69 : tby Tryd.prog 69 = some 16 := rfl
@[go_sem] theorem zro_69 : zeroC Tryd.prog 69 = some [Abs.AV.nili] := rfl
@[go_sem] theorem aggT_70 : aggT Tryd.prog 70 = some false := rfl
@[go_sem] theorem tsz_70 : tsz Tryd.prog 70 = some 1 := rfl
@[go_sem] theorem hasZero_70 : hasZero Tryd.prog 70 = some 1 := rfl
@[go_sem] theorem tby_70 : tby Tryd.prog 70 = some 0 := rfl
@[go_sem] theorem zro_70 : zeroC Tryd.prog 70 = some [Abs.AV.junk] := rfl
@[go_sem] theorem aggT_74 : aggT Tryd.prog 74 = some false := rfl
@[go_sem] theorem tsz_74 : tsz Tryd.prog 74 = some 1 := rfl
@[go_sem] theorem hasZero_74 : hasZero Tryd.prog 74 = some 1 := rfl
@[go_sem] theorem tby_74 : tby Tryd.prog 74 = some 8 := rfl
@[go_sem] theorem zro_74 : zeroC Tryd.prog 74 = some [Abs.AV.nilf] := rfl
@[go_sem] theorem aggT_75 : aggT Tryd.prog 75 = some false := rfl
@[go_sem] theorem tsz_75 : tsz Tryd.prog 75 = some 1 := rfl
@[go_sem] theorem hasZero_75 : hasZero Tryd.prog 75 = some 1 := rfl
@[go_sem] theorem tby_75 : tby Tryd.prog 75 = some 8 := rfl
@[go_sem] theorem zro_75 : zeroC Tryd.prog 75 = some [Abs.AV.nilf] := rfl
@[go_sem] theorem aggT_81 : aggT Tryd.prog 81 = some false := rfl
@[go_sem] theorem tsz_81 : tsz Tryd.prog 81 = some 1 := rfl
@[go_sem] theorem hasZero_81 : hasZero Tryd.prog 81 = some 1 := rfl
@[go_sem] theorem tby_81 : tby Tryd.prog 81 = some 8 := rfl
@[go_sem] theorem zro_81 : zeroC Tryd.prog 81 = some [Abs.AV.nilf] := rfl
@[go_sem] theorem aggT_83 : aggT Tryd.prog 83 = some false := rfl
@[go_sem] theorem tsz_83 : tsz Tryd.prog 83 = some 1 := rfl
@[go_sem] theorem hasZero_83 : hasZero Tryd.prog 83 = some 1 := rfl
@[go_sem] theorem tby_83 : tby Tryd.prog 83 = some 0 := rfl
@[go_sem] theorem zro_83 : zeroC Tryd.prog 83 = some [Abs.AV.junk] := rfl
@[go_sem] theorem und_85 : Tryd.prog.underlying 85 = some (.pointer 5) := rfl
@[go_sem] theorem aggT_85 : aggT Tryd.prog 85 = some false := rfl
@[go_sem] theorem tsz_85 : tsz Tryd.prog 85 = some 1 := rfl
@[go_sem] theorem hasZero_85 : hasZero Tryd.prog 85 = some 1 := rfl
@[go_sem] theorem tby_85 : tby Tryd.prog 85 = some 8 := rfl
@[go_sem] theorem zro_85 : zeroC Tryd.prog 85 = some [Abs.AV.nilp] := rfl
@[go_sem] theorem aggT_86 : aggT Tryd.prog 86 = some false := rfl
@[go_sem] theorem tsz_86 : tsz Tryd.prog 86 = some 1 := rfl
@[go_sem] theorem hasZero_86 : hasZero Tryd.prog 86 = some 1 := rfl
@[go_sem] theorem tby_86 : tby Tryd.prog 86 = some 8 := rfl
@[go_sem] theorem zro_86 : zeroC Tryd.prog 86 = some [Abs.AV.nilf] := rfl
@[go_sem] theorem aggT_87 : aggT Tryd.prog 87 = some true := rfl
@[go_sem] theorem tsz_87 : tsz Tryd.prog 87 = some 24 := rfl
@[go_sem] theorem hasZero_87 : hasZero Tryd.prog 87 = some 24 := rfl
@[go_sem] theorem tby_87 : tby Tryd.prog 87 = some 24 := rfl
@[go_sem] theorem aggT_90 : aggT Tryd.prog 90 = some false := rfl
@[go_sem] theorem tsz_90 : tsz Tryd.prog 90 = some 1 := rfl
@[go_sem] theorem hasZero_90 : hasZero Tryd.prog 90 = some 1 := rfl
@[go_sem] theorem tby_90 : tby Tryd.prog 90 = some 0 := rfl
@[go_sem] theorem zro_90 : zeroC Tryd.prog 90 = some [Abs.AV.junk] := rfl
@[go_sem] theorem aggT_93 : aggT Tryd.prog 93 = some false := rfl
@[go_sem] theorem tsz_93 : tsz Tryd.prog 93 = some 1 := rfl
@[go_sem] theorem hasZero_93 : hasZero Tryd.prog 93 = some 1 := rfl
@[go_sem] theorem tby_93 : tby Tryd.prog 93 = some 8 := rfl
@[go_sem] theorem zro_93 : zeroC Tryd.prog 93 = some [Abs.AV.nilf] := rfl
@[go_sem] theorem aggT_94 : aggT Tryd.prog 94 = some false := rfl
@[go_sem] theorem tsz_94 : tsz Tryd.prog 94 = some 1 := rfl
@[go_sem] theorem hasZero_94 : hasZero Tryd.prog 94 = some 1 := rfl
@[go_sem] theorem tby_94 : tby Tryd.prog 94 = some 8 := rfl
@[go_sem] theorem zro_94 : zeroC Tryd.prog 94 = some [Abs.AV.nilf] := rfl
@[go_sem] theorem und_97 : Tryd.prog.underlying 97 = some (.unsafePointer) := rfl
@[go_sem] theorem aggT_97 : aggT Tryd.prog 97 = some false := rfl
@[go_sem] theorem tsz_97 : tsz Tryd.prog 97 = some 1 := rfl
@[go_sem] theorem hasZero_97 : hasZero Tryd.prog 97 = some 1 := rfl
@[go_sem] theorem tby_97 : tby Tryd.prog 97 = some 8 := rfl
@[go_sem] theorem zro_97 : zeroC Tryd.prog 97 = some [Abs.AV.nilp] := rfl
@[go_sem] theorem aggT_103 : aggT Tryd.prog 103 = some true := rfl
@[go_sem] theorem tsz_103 : tsz Tryd.prog 103 = some 20 := rfl
@[go_sem] theorem hasZero_103 : hasZero Tryd.prog 103 = some 20 := rfl
@[go_sem] theorem tby_103 : tby Tryd.prog 103 = some 160 := rfl
@[go_sem] theorem und_104 : Tryd.prog.underlying 104 = some (.int .u32) := rfl
@[go_sem] theorem aggT_104 : aggT Tryd.prog 104 = some false := rfl
@[go_sem] theorem tsz_104 : tsz Tryd.prog 104 = some 1 := rfl
@[go_sem] theorem hasZero_104 : hasZero Tryd.prog 104 = some 1 := rfl
@[go_sem] theorem tby_104 : tby Tryd.prog 104 = some 4 := rfl
@[go_sem] theorem zro_104 : zeroC Tryd.prog 104 = some [Abs.AV.int IntKind.u32 0] := rfl
@[go_sem] theorem aggT_105 : aggT Tryd.prog 105 = some true := rfl
@[go_sem] theorem tsz_105 : tsz Tryd.prog 105 = some 65 := rfl
@[go_sem] theorem hasZero_105 : hasZero Tryd.prog 105 = some 65 := rfl
@[go_sem] theorem tby_105 : tby Tryd.prog 105 = some 65 := rfl
@[go_sem] theorem aggT_108 : aggT Tryd.prog 108 = some false := rfl
@[go_sem] theorem tsz_108 : tsz Tryd.prog 108 = some 1 := rfl
@[go_sem] theorem hasZero_108 : hasZero Tryd.prog 108 = some 1 := rfl
@[go_sem] theorem tby_108 : tby Tryd.prog 108 = some 8 := rfl
@[go_sem] theorem zro_108 : zeroC Tryd.prog 108 = some [Abs.AV.nilf] := rfl
@[go_sem] theorem aggT_109 : aggT Tryd.prog 109 = some true := rfl
@[go_sem] theorem tsz_109 : tsz Tryd.prog 109 = some 12 := rfl
@[go_sem] theorem hasZero_109 : hasZero Tryd.prog 109 = some 12 := rfl
@[go_sem] theorem tby_109 : tby Tryd.prog 109 = some 96 := rfl
@[go_sem] theorem zro_109 : zeroC Tryd.prog 109 = some [Abs.AV.int IntKind.i64 0, Abs.AV.int IntKind.i64 0, Abs.AV.int IntKind.i64 0, Abs.AV.int IntKind.i64 0, Abs.AV.int IntKind.i64 0, Abs.AV.int IntKind.i64 0, Abs.AV.int IntKind.i64 0, Abs.AV.int IntKind.i64 0, Abs.AV.int IntKind.i64 0, Abs.AV.int IntKind.i64 0, Abs.AV.int IntKind.i64 0, Abs.AV.int IntKind.i64 0] := rfl
@[go_sem] theorem aggT_111 : aggT Tryd.prog 111 = some false := rfl
@[go_sem] theorem tsz_111 : tsz Tryd.prog 111 = some 1 := rfl
@[go_sem] theorem hasZero_111 : hasZero Tryd.prog 111 = some 1 := rfl
@[go_sem] theorem tby_111 : tby Tryd.prog 111 = some 0 := rfl
@[go_sem] theorem zro_111 : zeroC Tryd.prog 111 = some [Abs.AV.junk] := rfl
@[go_sem] theorem aggT_115 : aggT Tryd.prog 115 = some false := rfl
@[go_sem] theorem tsz_115 : tsz Tryd.prog 115 = some 1 := rfl
@[go_sem] theorem hasZero_115 : hasZero Tryd.prog 115 = some 1 := rfl
@[go_sem] theorem tby_115 : tby Tryd.prog 115 = some 0 := rfl
@[go_sem] theorem zro_115 : zeroC Tryd.prog 115 = some [Abs.AV.junk] := rfl
@[go_sem] theorem aggT_117 : aggT Tryd.prog 117 = some false := rfl
@[go_sem] theorem tsz_117 : tsz Tryd.prog 117 = some 1 := rfl
@[go_sem] theorem hasZero_117 : hasZero Tryd.prog 117 = some 1 := rfl
@[go_sem] theorem tby_117 : tby Tryd.prog 117 = some 0 := rfl
@[go_sem] theorem zro_117 : zeroC Tryd.prog 117 = some [Abs.AV.junk] := rfl
@[go_sem] theorem aggT_119 : aggT Tryd.prog 119 = some true := rfl
@[go_sem] theorem tsz_119 : tsz Tryd.prog 119 = some 32 := rfl
@[go_sem] theorem hasZero_119 : hasZero Tryd.prog 119 = some 32 := rfl
@[go_sem] theorem tby_119 : tby Tryd.prog 119 = some 32 := rfl
@[go_sem] theorem aggT_120 : aggT Tryd.prog 120 = some true := rfl
@[go_sem] theorem tsz_120 : tsz Tryd.prog 120 = some 64 := rfl
@[go_sem] theorem hasZero_120 : hasZero Tryd.prog 120 = some 64 := rfl
@[go_sem] theorem tby_120 : tby Tryd.prog 120 = some 64 := rfl
@[go_sem high] theorem fa_7_0 (id g i c : Nat) : aFieldAddr Tryd.prog 7 (.ptr id g i c) 0 = some (True, .ptr id g i (c + 0)) := fieldAddr_ptr (n := 0) rfl id g i c
@[go_sem high] theorem ff_7_0 (cs : List AV) : aFieldAddr Tryd.prog 7 (.fptr cs) 0 = some (0 ≤ cs.length, .fptr (cs.drop 0)) := fieldAddr_fptr (n := 0) rfl cs
@[go_sem high] theorem fv_7_0 (cs : List AV) : aField Tryd.prog 7 (.agg cs) 0 = aPart Tryd.prog 2 cs 0 := field_agg rfl cs
@[go_sem high] theorem fa_7_1 (id g i c : Nat) : aFieldAddr Tryd.prog 7 (.ptr id g i c) 1 = some (True, .ptr id g i (c + 1)) := fieldAddr_ptr (n := 0) rfl id g i c
@[go_sem high] theorem ff_7_1 (cs : List AV) : aFieldAddr Tryd.prog 7 (.fptr cs) 1 = some (1 ≤ cs.length, .fptr (cs.drop 1)) := fieldAddr_fptr (n := 0) rfl cs
@[go_sem high] theorem fv_7_1 (cs : List AV) : aField Tryd.prog 7 (.agg cs) 1 = aPart Tryd.prog 3 cs 1 := field_agg rfl cs
@[go_sem high] theorem fa_7_2 (id g i c : Nat) : aFieldAddr Tryd.prog 7 (.ptr id g i c) 2 = some (True, .ptr id g i (c + 2)) := fieldAddr_ptr (n := 0) rfl id g i c
@[go_sem high] theorem ff_7_2 (cs : List AV) : aFieldAddr Tryd.prog 7 (.fptr cs) 2 = some (2 ≤ cs.length, .fptr (cs.drop 2)) := fieldAddr_fptr (n := 0) rfl cs
@[go_sem high] theorem fv_7_2 (cs : List AV) : aField Tryd.prog 7 (.agg cs) 2 = aPart Tryd.prog 4 cs 2 := field_agg rfl cs
@[go_sem high] theorem fa_7_3 (id g i c : Nat) : aFieldAddr Tryd.prog 7 (.ptr id g i c) 3 = some (True, .ptr id g i (c + 3)) := fieldAddr_ptr (n := 0) rfl id g i c
@[go_sem high] theorem ff_7_3 (cs : List AV) : aFieldAddr Tryd.prog 7 (.fptr cs) 3 = some (3 ≤ cs.length, .fptr (cs.drop 3)) := fieldAddr_fptr (n := 0) rfl cs
@[go_sem high] theorem fv_7_3 (cs : List AV) : aField Tryd.prog 7 (.agg cs) 3 = aPart Tryd.prog 6 cs 3 := field_agg rfl cs
@[go_sem high] theorem fa_8_0 (id g i c : Nat) : aFieldAddr Tryd.prog 8 (.ptr id g i c) 0 = some (True, .ptr id g i (c + 0)) := fieldAddr_ptr (n := 0) rfl id g i c
@[go_sem high] theorem ff_8_0 (cs : List AV) : aFieldAddr Tryd.prog 8 (.fptr cs) 0 = some (0 ≤ cs.length, .fptr (cs.drop 0)) := fieldAddr_fptr (n := 0) rfl cs
@[go_sem high] theorem fv_8_0 (cs : List AV) : aField Tryd.prog 8 (.agg cs) 0 = aPart Tryd.prog 2 cs 0 := field_agg rfl cs
@[go_sem high] theorem fa_8_1 (id g i c : Nat) : aFieldAddr Tryd.prog 8 (.ptr id g i c) 1 = some (True, .ptr id g i (c + 1)) := fieldAddr_ptr (n := 0) rfl id g i c
@[go_sem high] theorem ff_8_1 (cs : List AV) : aFieldAddr Tryd.prog 8 (.fptr cs) 1 = some (1 ≤ cs.length, .fptr (cs.drop 1)) := fieldAddr_fptr (n := 0) rfl cs
@[go_sem high] theorem fv_8_1 (cs : List AV) : aField Tryd.prog 8 (.agg cs) 1 = aPart Tryd.prog 3 cs 1 := field_agg rfl cs
@[go_sem high] theorem fa_8_2 (id g i c : Nat) : aFieldAddr Tryd.prog 8 (.ptr id g i c) 2 = some (True, .ptr id g i (c + 2)) := fieldAddr_ptr (n := 0) rfl id g i c
@[go_sem high] theorem ff_8_2 (cs : List AV) : aFieldAddr Tryd.prog 8 (.fptr cs) 2 = some (2 ≤ cs.length, .fptr (cs.drop 2)) := fieldAddr_fptr (n := 0) rfl cs
@[go_sem high] theorem fv_8_2 (cs : List AV) : aField Tryd.prog 8 (.agg cs) 2 = aPart Tryd.prog 4 cs 2 := field_agg rfl cs
@[go_sem high] theorem fa_8_3 (id g i c : Nat) : aFieldAddr Tryd.prog 8 (.ptr id g i c) 3 = some (True, .ptr id g i (c + 3)) := fieldAddr_ptr (n := 0) rfl id g i c
@[go_sem high] theorem ff_8_3 (cs : List AV) : aFieldAddr Tryd.prog 8 (.fptr cs) 3 = some (3 ≤ cs.length, .fptr (cs.drop 3)) := fieldAddr_fptr (n := 0) rfl cs
@[go_sem high] theorem fv_8_3 (cs : List AV) : aField Tryd.prog 8 (.agg cs) 3 = aPart Tryd.prog 6 cs 3 := field_agg rfl cs
@[go_sem high] theorem fa_13_0 (id g i c : Nat) : aFieldAddr Tryd.prog 13 (.ptr id g i c) 0 = some (True, .ptr id g i (c + 0)) := fieldAddr_ptr (n := 0) rfl id g i c
@[go_sem high] theorem ff_13_0 (cs : List AV) : aFieldAddr Tryd.prog 13 (.fptr cs) 0 = some (0 ≤ cs.length, .fptr (cs.drop 0)) := fieldAddr_fptr (n := 0) rfl cs
@[go_sem high] theorem fv_13_0 (cs : List AV) : aField Tryd.prog 13 (.agg cs) 0 = aPart Tryd.prog 9 cs 0 := field_agg rfl cs
@[go_sem high] theorem fa_13_1 (id g i c : Nat) : aFieldAddr Tryd.prog 13 (.ptr id g i c) 1 = some (True, .ptr id g i (c + 1)) := fieldAddr_ptr (n := 0) rfl id g i c
@[go_sem high] theorem ff_13_1 (cs : List AV) : aFieldAddr Tryd.prog 13 (.fptr cs) 1 = some (1 ≤ cs.length, .fptr (cs.drop 1)) := fieldAddr_fptr (n := 0) rfl cs
@[go_sem high] theorem fv_13_1 (cs : List AV) : aField Tryd.prog 13 (.agg cs) 1 = aPart Tryd.prog 12 cs 1 := field_agg rfl cs
@[go_sem high] theorem fa_14_0 (id g i c : Nat) : aFieldAddr Tryd.prog 14 (.ptr id g i c) 0 = some (True, .ptr id g i (c + 0)) := fieldAddr_ptr (n := 0) rfl id g i c
@[go_sem high] theorem ff_14_0 (cs : List AV) : aFieldAddr Tryd.prog 14 (.fptr cs) 0 = some (0 ≤ cs.length, .fptr (cs.drop 0)) := fieldAddr_fptr (n := 0) rfl cs
@[go_sem high] theorem fv_14_0 (cs : List AV) : aField Tryd.prog 14 (.agg cs) 0 = aPart Tryd.prog 9 cs 0 := field_agg rfl cs
@[go_sem high] theorem fa_14_1 (id g i c : Nat) : aFieldAddr Tryd.prog 14 (.ptr id g i c) 1 = some (True, .ptr id g i (c + 1)) := fieldAddr_ptr (n := 0) rfl id g i c
@[go_sem high] theorem ff_14_1 (cs : List AV) : aFieldAddr Tryd.prog 14 (.fptr cs) 1 = some (1 ≤ cs.length, .fptr (cs.drop 1)) := fieldAddr_fptr (n := 0) rfl cs
@[go_sem high] theorem fv_14_1 (cs : List AV) : aField Tryd.prog 14 (.agg cs) 1 = aPart Tryd.prog 12 cs 1 := field_agg rfl cs
@[go_sem high] theorem fa_18_0 (id g i c : Nat) : aFieldAddr Tryd.prog 18 (.ptr id g i c) 0 = some (True, .ptr id g i (c + 0)) := fieldAddr_ptr (n := 0) rfl id g i c
@[go_sem high] theorem ff_18_0 (cs : List AV) : aFieldAddr Tryd.prog 18 (.fptr cs) 0 = some (0 ≤ cs.length, .fptr (cs.drop 0)) := fieldAddr_fptr (n := 0) rfl cs
@[go_sem high] theorem fv_18_0 (cs : List AV) : aField Tryd.prog 18 (.agg cs) 0 = aPart Tryd.prog 17 cs 0 := field_agg rfl cs
@[go_sem high] theorem fa_19_0 (id g i c : Nat) : aFieldAddr Tryd.prog 19 (.ptr id g i c) 0 = some (True, .ptr id g i (c + 0)) := fieldAddr_ptr (n := 0) rfl id g i c
@[go_sem high] theorem ff_19_0 (cs : List AV) : aFieldAddr Tryd.prog 19 (.fptr cs) 0 = some (0 ≤ cs.length, .fptr (cs.drop 0)) := fieldAddr_fptr (n := 0) rfl cs
@[go_sem high] theorem fv_19_0 (cs : List AV) : aField Tryd.prog 19 (.agg cs) 0 = aPart Tryd.prog 17 cs 0 := field_agg rfl cs
@[go_sem high] theorem fa_28_0 (id g i c : Nat) : aFieldAddr Tryd.prog 28 (.ptr id g i c) 0 = some (True, .ptr id g i (c + 0)) := fieldAddr_ptr (n := 0) rfl id g i c
@[go_sem high] theorem ff_28_0 (cs : List AV) : aFieldAddr Tryd.prog 28 (.fptr cs) 0 = some (0 ≤ cs.length, .fptr (cs.drop 0)) := fieldAddr_fptr (n := 0) rfl cs
@[go_sem high] theorem fv_28_0 (cs : List AV) : aField Tryd.prog 28 (.agg cs) 0 = aPart Tryd.prog 3 cs 0 := field_agg rfl cs
@[go_sem high] theorem fa_28_1 (id g i c : Nat) : aFieldAddr Tryd.prog 28 (.ptr id g i c) 1 = some (True, .ptr id g i (c + 1)) := fieldAddr_ptr (n := 0) rfl id g i c
@[go_sem high] theorem ff_28_1 (cs : List AV) : aFieldAddr Tryd.prog 28 (.fptr cs) 1 = some (1 ≤ cs.length, .fptr (cs.drop 1)) := fieldAddr_fptr (n := 0) rfl cs
@[go_sem high] theorem fv_28_1 (cs : List AV) : aField Tryd.prog 28 (.agg cs) 1 = aPart Tryd.prog 3 cs 1 := field_agg rfl cs
@[go_sem high] theorem fa_28_2 (id g i c : Nat) : aFieldAddr Tryd.prog 28 (.ptr id g i c) 2 = some (True, .ptr id g i (c + 2)) := fieldAddr_ptr (n := 0) rfl id g i c
@[go_sem high] theorem ff_28_2 (cs : List AV) : aFieldAddr Tryd.prog 28 (.fptr cs) 2 = some (2 ≤ cs.length, .fptr (cs.drop 2)) := fieldAddr_fptr (n := 0) rfl cs
@[go_sem high] theorem fv_28_2 (cs : List AV) : aField Tryd.prog 28 (.agg cs) 2 = aPart Tryd.prog 9 cs 2 := field_agg rfl cs
@[go_sem high] theorem fa_28_3 (id g i c : Nat) : aFieldAddr Tryd.prog 28 (.ptr id g i c) 3 = some (True, .ptr id g i (c + 3)) := fieldAddr_ptr (n := 0) rfl id g i c
@[go_sem high] theorem ff_28_3 (cs : List AV) : aFieldAddr Tryd.prog 28 (.fptr cs) 3 = some (3 ≤ cs.length, .fptr (cs.drop 3)) := fieldAddr_fptr (n := 0) rfl cs
@[go_sem high] theorem fv_28_3 (cs : List AV) : aField Tryd.prog 28 (.agg cs) 3 = aPart Tryd.prog 22 cs 3 := field_agg rfl cs
@[go_sem high] theorem fa_28_4 (id g i c : Nat) : aFieldAddr Tryd.prog 28 (.ptr id g i c) 4 = some (True, .ptr id g i (c + 4)) := fieldAddr_ptr (n := 0) rfl id g i c
@[go_sem high] theorem ff_28_4 (cs : List AV) : aFieldAddr Tryd.prog 28 (.fptr cs) 4 = some (4 ≤ cs.length, .fptr (cs.drop 4)) := fieldAddr_fptr (n := 0) rfl cs
@[go_sem high] theorem fv_28_4 (cs : List AV) : aField Tryd.prog 28 (.agg cs) 4 = aPart Tryd.prog 26 cs 4 := field_agg rfl cs
@[go_sem high] theorem fa_28_5 (id g i c : Nat) : aFieldAddr Tryd.prog 28 (.ptr id g i c) 5 = some (True, .ptr id g i (c + 5)) := fieldAddr_ptr (n := 0) rfl id g i c
@[go_sem high] theorem ff_28_5 (cs : List AV) : aFieldAddr Tryd.prog 28 (.fptr cs) 5 = some (5 ≤ cs.length, .fptr (cs.drop 5)) := fieldAddr_fptr (n := 0) rfl cs
@[go_sem high] theorem fv_28_5 (cs : List AV) : aField Tryd.prog 28 (.agg cs) 5 = aPart Tryd.prog 27 cs 5 := field_agg rfl cs
@[go_sem] theorem fld_29_0 : fldOf Tryd.prog 29 0 = some (0, 1) := rfl
@[go_sem high] theorem fa_29_0 (id g i c : Nat) : aFieldAddr Tryd.prog 29 (.ptr id g i c) 0 = some (True, .ptr id g i (c + 0)) := fieldAddr_ptr (n := 0) rfl id g i c
@[go_sem high] theorem ff_29_0 (cs : List AV) : aFieldAddr Tryd.prog 29 (.fptr cs) 0 = some (0 ≤ cs.length, .fptr (cs.drop 0)) := fieldAddr_fptr (n := 0) rfl cs
@[go_sem high] theorem fv_29_0 (cs : List AV) : aField Tryd.prog 29 (.agg cs) 0 = aPart Tryd.prog 3 cs 0 := field_agg rfl cs
@[go_sem] theorem fld_29_1 : fldOf Tryd.prog 29 1 = some (1, 1) := rfl
@[go_sem high] theorem fa_29_1 (id g i c : Nat) : aFieldAddr Tryd.prog 29 (.ptr id g i c) 1 = some (True, .ptr id g i (c + 1)) := fieldAddr_ptr (n := 0) rfl id g i c
@[go_sem high] theorem ff_29_1 (cs : List AV) : aFieldAddr Tryd.prog 29 (.fptr cs) 1 = some (1 ≤ cs.length, .fptr (cs.drop 1)) := fieldAddr_fptr (n := 0) rfl cs
@[go_sem high] theorem fv_29_1 (cs : List AV) : aField Tryd.prog 29 (.agg cs) 1 = aPart Tryd.prog 3 cs 1 := field_agg rfl cs
@[go_sem] theorem fld_29_2 : fldOf Tryd.prog 29 2 = some (2, 1) := rfl
@[go_sem high] theorem fa_29_2 (id g i c : Nat) : aFieldAddr Tryd.prog 29 (.ptr id g i c) 2 = some (True, .ptr id g i (c + 2)) := fieldAddr_ptr (n := 0) rfl id g i c
@[go_sem high] theorem ff_29_2 (cs : List AV) : aFieldAddr Tryd.prog 29 (.fptr cs) 2 = some (2 ≤ cs.length, .fptr (cs.drop 2)) := fieldAddr_fptr (n := 0) rfl cs
@[go_sem high] theorem fv_29_2 (cs : List AV) : aField Tryd.prog 29 (.agg cs) 2 = aPart Tryd.prog 9 cs 2 := field_agg rfl cs
@[go_sem] theorem fld_29_3 : fldOf Tryd.prog 29 3 = some (3, 1) := rfl
@[go_sem high] theorem fa_29_3 (id g i c : Nat) : aFieldAddr Tryd.prog 29 (.ptr id g i c) 3 = some (True, .ptr id g i (c + 3)) := fieldAddr_ptr (n := 0) rfl id g i c
@[go_sem high] theorem ff_29_3 (cs : List AV) : aFieldAddr Tryd.prog 29 (.fptr cs) 3 = some (3 ≤ cs.length, .fptr (cs.drop 3)) := fieldAddr_fptr (n := 0) rfl cs
@[go_sem high] theorem fv_29_3 (cs : List AV) : aField Tryd.prog 29 (.agg cs) 3 = aPart Tryd.prog 22 cs 3 := field_agg rfl cs
@[go_sem] theorem fld_29_4 : fldOf Tryd.prog 29 4 = some (4, 1) := rfl
@[go_sem high] theorem fa_29_4 (id g i c : Nat) : aFieldAddr Tryd.prog 29 (.ptr id g i c) 4 = some (True, .ptr id g i (c + 4)) := fieldAddr_ptr (n := 0) rfl id g i c
@[go_sem high] theorem ff_29_4 (cs : List AV) : aFieldAddr Tryd.prog 29 (.fptr cs) 4 = some (4 ≤ cs.length, .fptr (cs.drop 4)) := fieldAddr_fptr (n := 0) rfl cs
@[go_sem high] theorem fv_29_4 (cs : List AV) : aField Tryd.prog 29 (.agg cs) 4 = aPart Tryd.prog 26 cs 4 := field_agg rfl cs
@[go_sem] theorem fld_29_5 : fldOf Tryd.prog 29 5 = some (5, 1) := rfl
@[go_sem high] theorem fa_29_5 (id g i c : Nat) : aFieldAddr Tryd.prog 29 (.ptr id g i c) 5 = some (True, .ptr id g i (c + 5)) := fieldAddr_ptr (n := 0) rfl id g i c
@[go_sem high] theorem ff_29_5 (cs : List AV) : aFieldAddr Tryd.prog 29 (.fptr cs) 5 = some (5 ≤ cs.length, .fptr (cs.drop 5)) := fieldAddr_fptr (n := 0) rfl cs
@[go_sem high] theorem fv_29_5 (cs : List AV) : aField Tryd.prog 29 (.agg cs) 5 = aPart Tryd.prog 27 cs 5 := field_agg rfl cs
@[go_sem high] theorem fa_49_0 (id g i c : Nat) : aFieldAddr Tryd.prog 49 (.ptr id g i c) 0 = some (True, .ptr id g i (c + 0)) := fieldAddr_ptr (n := 0) rfl id g i c
@[go_sem high] theorem ff_49_0 (cs : List AV) : aFieldAddr Tryd.prog 49 (.fptr cs) 0 = some (0 ≤ cs.length, .fptr (cs.drop 0)) := fieldAddr_fptr (n := 0) rfl cs
@[go_sem high] theorem fv_49_0 (cs : List AV) : aField Tryd.prog 49 (.agg cs) 0 = aPart Tryd.prog 9 cs 0 := field_agg rfl cs
@[go_sem high] theorem fa_49_1 (id g i c : Nat) : aFieldAddr Tryd.prog 49 (.ptr id g i c) 1 = some (True, .ptr id g i (c + 1)) := fieldAddr_ptr (n := 0) rfl id g i c
@[go_sem high] theorem ff_49_1 (cs : List AV) : aFieldAddr Tryd.prog 49 (.fptr cs) 1 = some (1 ≤ cs.length, .fptr (cs.drop 1)) := fieldAddr_fptr (n := 0) rfl cs
@[go_sem high] theorem fv_49_1 (cs : List AV) : aField Tryd.prog 49 (.agg cs) 1 = aPart Tryd.prog 9 cs 1 := field_agg rfl cs
@[go_sem high] theorem fa_49_2 (id g i c : Nat) : aFieldAddr Tryd.prog 49 (.ptr id g i c) 2 = some (True, .ptr id g i (c + 2)) := fieldAddr_ptr (n := 0) rfl id g i c
@[go_sem high] theorem ff_49_2 (cs : List AV) : aFieldAddr Tryd.prog 49 (.fptr cs) 2 = some (2 ≤ cs.length, .fptr (cs.drop 2)) := fieldAddr_fptr (n := 0) rfl cs
@[go_sem high] theorem fv_49_2 (cs : List AV) : aField Tryd.prog 49 (.agg cs) 2 = aPart Tryd.prog 48 cs 2 := field_agg rfl cs
@[go_sem high] theorem fa_49_3 (id g i c : Nat) : aFieldAddr Tryd.prog 49 (.ptr id g i c) 3 = some (True, .ptr id g i (c + 3)) := fieldAddr_ptr (n := 0) rfl id g i c
@[go_sem high] theorem ff_49_3 (cs : List AV) : aFieldAddr Tryd.prog 49 (.fptr cs) 3 = some (3 ≤ cs.length, .fptr (cs.drop 3)) := fieldAddr_fptr (n := 0) rfl cs
@[go_sem high] theorem fv_49_3 (cs : List AV) : aField Tryd.prog 49 (.agg cs) 3 = aPart Tryd.prog 9 cs 3 := field_agg rfl cs
@[go_sem] theorem fld_50_0 : fldOf Tryd.prog 50 0 = some (0, 1) := rfl
@[go_sem high] theorem fa_50_0 (id g i c : Nat) : aFieldAddr Tryd.prog 50 (.ptr id g i c) 0 = some (True, .ptr id g i (c + 0)) := fieldAddr_ptr (n := 0) rfl id g i c
@[go_sem high] theorem ff_50_0 (cs : List AV) : aFieldAddr Tryd.prog 50 (.fptr cs) 0 = some (0 ≤ cs.length, .fptr (cs.drop 0)) := fieldAddr_fptr (n := 0) rfl cs
@[go_sem high] theorem fv_50_0 (cs : List AV) : aField Tryd.prog 50 (.agg cs) 0 = aPart Tryd.prog 9 cs 0 := field_agg rfl cs
@[go_sem] theorem fld_50_1 : fldOf Tryd.prog 50 1 = some (1, 1) := rfl
@[go_sem high] theorem fa_50_1 (id g i c : Nat) : aFieldAddr Tryd.prog 50 (.ptr id g i c) 1 = some (True, .ptr id g i (c + 1)) := fieldAddr_ptr (n := 0) rfl id g i c
@[go_sem high] theorem ff_50_1 (cs : List AV) : aFieldAddr Tryd.prog 50 (.fptr cs) 1 = some (1 ≤ cs.length, .fptr (cs.drop 1)) := fieldAddr_fptr (n := 0) rfl cs
@[go_sem high] theorem fv_50_1 (cs : List AV) : aField Tryd.prog 50 (.agg cs) 1 = aPart Tryd.prog 9 cs 1 := field_agg rfl cs
@[go_sem] theorem fld_50_2 : fldOf Tryd.prog 50 2 = some (2, 1) := rfl
@[go_sem high] theorem fa_50_2 (id g i c : Nat) : aFieldAddr Tryd.prog 50 (.ptr id g i c) 2 = some (True, .ptr id g i (c + 2)) := fieldAddr_ptr (n := 0) rfl id g i c
@[go_sem high] theorem ff_50_2 (cs : List AV) : aFieldAddr Tryd.prog 50 (.fptr cs) 2 = some (2 ≤ cs.length, .fptr (cs.drop 2)) := fieldAddr_fptr (n := 0) rfl cs
@[go_sem high] theorem fv_50_2 (cs : List AV) : aField Tryd.prog 50 (.agg cs) 2 = aPart Tryd.prog 48 cs 2 := field_agg rfl cs
@[go_sem] theorem fld_50_3 : fldOf Tryd.prog 50 3 = some (3, 1) := rfl
@[go_sem high] theorem fa_50_3 (id g i c : Nat) : aFieldAddr Tryd.prog 50 (.ptr id g i c) 3 = some (True, .ptr id g i (c + 3)) := fieldAddr_ptr (n := 0) rfl id g i c
@[go_sem high] theorem ff_50_3 (cs : List AV) : aFieldAddr Tryd.prog 50 (.fptr cs) 3 = some (3 ≤ cs.length, .fptr (cs.drop 3)) := fieldAddr_fptr (n := 0) rfl cs
@[go_sem high] theorem fv_50_3 (cs : List AV) : aField Tryd.prog 50 (.agg cs) 3 = aPart Tryd.prog 9 cs 3 := field_agg rfl cs
@[go_sem high] theorem fa_52_0 (id g i c : Nat) : aFieldAddr Tryd.prog 52 (.ptr id g i c) 0 = some (True, .ptr id g i (c + 0)) := fieldAddr_ptr (n := 0) rfl id g i c
@[go_sem high] theorem ff_52_0 (cs : List AV) : aFieldAddr Tryd.prog 52 (.fptr cs) 0 = some (0 ≤ cs.length, .fptr (cs.drop 0)) := fieldAddr_fptr (n := 0) rfl cs
@[go_sem high] theorem fv_52_0 (cs : List AV) : aField Tryd.prog 52 (.agg cs) 0 = aPart Tryd.prog 9 cs 0 := field_agg rfl cs
@[go_sem high] theorem fa_52_1 (id g i c : Nat) : aFieldAddr Tryd.prog 52 (.ptr id g i c) 1 = some (True, .ptr id g i (c + 1)) := fieldAddr_ptr (n := 0) rfl id g i c
@[go_sem high] theorem ff_52_1 (cs : List AV) : aFieldAddr Tryd.prog 52 (.fptr cs) 1 = some (1 ≤ cs.length, .fptr (cs.drop 1)) := fieldAddr_fptr (n := 0) rfl cs
@[go_sem high] theorem fv_52_1 (cs : List AV) : aField Tryd.prog 52 (.agg cs) 1 = aPart Tryd.prog 9 cs 1 := field_agg rfl cs
@[go_sem] theorem fld_53_0 : fldOf Tryd.prog 53 0 = some (0, 1) := rfl
@[go_sem high] theorem fa_53_0 (id g i c : Nat) : aFieldAddr Tryd.prog 53 (.ptr id g i c) 0 = some (True, .ptr id g i (c + 0)) := fieldAddr_ptr (n := 0) rfl id g i c
@[go_sem high] theorem ff_53_0 (cs : List AV) : aFieldAddr Tryd.prog 53 (.fptr cs) 0 = some (0 ≤ cs.length, .fptr (cs.drop 0)) := fieldAddr_fptr (n := 0) rfl cs
@[go_sem high] theorem fv_53_0 (cs : List AV) : aField Tryd.prog 53 (.agg cs) 0 = aPart Tryd.prog 9 cs 0 := field_agg rfl cs
@[go_sem] theorem fld_53_1 : fldOf Tryd.prog 53 1 = some (1, 1) := rfl
@[go_sem high] theorem fa_53_1 (id g i c : Nat) : aFieldAddr Tryd.prog 53 (.ptr id g i c) 1 = some (True, .ptr id g i (c + 1)) := fieldAddr_ptr (n := 0) rfl id g i c
@[go_sem high] theorem ff_53_1 (cs : List AV) : aFieldAddr Tryd.prog 53 (.fptr cs) 1 = some (1 ≤ cs.length, .fptr (cs.drop 1)) := fieldAddr_fptr (n := 0) rfl cs
@[go_sem high] theorem fv_53_1 (cs : List AV) : aField Tryd.prog 53 (.agg cs) 1 = aPart Tryd.prog 9 cs 1 := field_agg rfl cs
@[go_sem high] theorem fa_65_0 (id g i c : Nat) : aFieldAddr Tryd.prog 65 (.ptr id g i c) 0 = some (True, .ptr id g i (c + 0)) := fieldAddr_ptr (n := 0) rfl id g i c
@[go_sem high] theorem ff_65_0 (cs : List AV) : aFieldAddr Tryd.prog 65 (.fptr cs) 0 = some (0 ≤ cs.length, .fptr (cs.drop 0)) := fieldAddr_fptr (n := 0) rfl cs
@[go_sem high] theorem fv_65_0 (cs : List AV) : aField Tryd.prog 65 (.agg cs) 0 = aPart Tryd.prog 63 cs 0 := field_agg rfl cs
@[go_sem high] theorem fa_65_1 (id g i c : Nat) : aFieldAddr Tryd.prog 65 (.ptr id g i c) 1 = some (True, .ptr id g i (c + 1)) := fieldAddr_ptr (n := 0) rfl id g i c
@[go_sem high] theorem ff_65_1 (cs : List AV) : aFieldAddr Tryd.prog 65 (.fptr cs) 1 = some (1 ≤ cs.length, .fptr (cs.drop 1)) := fieldAddr_fptr (n := 0) rfl cs
@[go_sem high] theorem fv_65_1 (cs : List AV) : aField Tryd.prog 65 (.agg cs) 1 = aPart Tryd.prog 64 cs 1 := field_agg rfl cs
@[go_sem] theorem fld_66_0 : fldOf Tryd.prog 66 0 = some (0, 1) := rfl
@[go_sem high] theorem fa_66_0 (id g i c : Nat) : aFieldAddr Tryd.prog 66 (.ptr id g i c) 0 = some (True, .ptr id g i (c + 0)) := fieldAddr_ptr (n := 0) rfl id g i c
@[go_sem high] theorem ff_66_0 (cs : List AV) : aFieldAddr Tryd.prog 66 (.fptr cs) 0 = some (0 ≤ cs.length, .fptr (cs.drop 0)) := fieldAddr_fptr (n := 0) rfl cs
@[go_sem high] theorem fv_66_0 (cs : List AV) : aField Tryd.prog 66 (.agg cs) 0 = aPart Tryd.prog 63 cs 0 := field_agg rfl cs
@[go_sem] theorem fld_66_1 : fldOf Tryd.prog 66 1 = some (1, 1) := rfl
@[go_sem high] theorem fa_66_1 (id g i c : Nat) : aFieldAddr Tryd.prog 66 (.ptr id g i c) 1 = some (True, .ptr id g i (c + 1)) := fieldAddr_ptr (n := 0) rfl id g i c
@[go_sem high] theorem ff_66_1 (cs : List AV) : aFieldAddr Tryd.prog 66 (.fptr cs) 1 = some (1 ≤ cs.length, .fptr (cs.drop 1)) := fieldAddr_fptr (n := 0) rfl cs
@[go_sem high] theorem fv_66_1 (cs : List AV) : aField Tryd.prog 66 (.agg cs) 1 = aPart Tryd.prog 64 cs 1 := field_agg rfl cs
@[go_sem high] theorem fa_121_0 (id g i c : Nat) : aFieldAddr Tryd.prog 121 (.ptr id g i c) 0 = some (True, .ptr id g i (c + 0)) := fieldAddr_ptr (n := 0) rfl id g i c
@[go_sem high] theorem ff_121_0 (cs : List AV) : aFieldAddr Tryd.prog 121 (.fptr cs) 0 = some (0 ≤ cs.length, .fptr (cs.drop 0)) := fieldAddr_fptr (n := 0) rfl cs
@[go_sem high] theorem fv_121_0 (cs : List AV) : aField Tryd.prog 121 (.agg cs) 0 = aPart Tryd.prog 17 cs 0 := field_agg rfl cs
@[go_sem high] theorem fa_121_1 (id g i c : Nat) : aFieldAddr Tryd.prog 121 (.ptr id g i c) 1 = some (True, .ptr id g i (c + 1)) := fieldAddr_ptr (n := 0) rfl id g i c
@[go_sem high] theorem ff_121_1 (cs : List AV) : aFieldAddr Tryd.prog 121 (.fptr cs) 1 = some (1 ≤ cs.length, .fptr (cs.drop 1)) := fieldAddr_fptr (n := 0) rfl cs
@[go_sem high] theorem fv_121_1 (cs : List AV) : aField Tryd.prog 121 (.agg cs) 1 = aPart Tryd.prog 17 cs 1 := field_agg rfl cs
@[go_sem high] theorem fa_121_2 (id g i c : Nat) : aFieldAddr Tryd.prog 121 (.ptr id g i c) 2 = some (True, .ptr id g i (c + 2)) := fieldAddr_ptr (n := 0) rfl id g i c
@[go_sem high] theorem ff_121_2 (cs : List AV) : aFieldAddr Tryd.prog 121 (.fptr cs) 2 = some (2 ≤ cs.length, .fptr (cs.drop 2)) := fieldAddr_fptr (n := 0) rfl cs
@[go_sem high] theorem fv_121_2 (cs : List AV) : aField Tryd.prog 121 (.agg cs) 2 = aPart Tryd.prog 17 cs 2 := field_agg rfl cs
@[go_sem high] theorem fa_121_3 (id g i c : Nat) : aFieldAddr Tryd.prog 121 (.ptr id g i c) 3 = some (True, .ptr id g i (c + 3)) := fieldAddr_ptr (n := 0) rfl id g i c
@[go_sem high] theorem ff_121_3 (cs : List AV) : aFieldAddr Tryd.prog 121 (.fptr cs) 3 = some (3 ≤ cs.length, .fptr (cs.drop 3)) := fieldAddr_fptr (n := 0) rfl cs
@[go_sem high] theorem fv_121_3 (cs : List AV) : aField Tryd.prog 121 (.agg cs) 3 = aPart Tryd.prog 9 cs 3 := field_agg rfl cs
@[go_sem high] theorem fa_122_0 (id g i c : Nat) : aFieldAddr Tryd.prog 122 (.ptr id g i c) 0 = some (True, .ptr id g i (c + 0)) := fieldAddr_ptr (n := 0) rfl id g i c
@[go_sem high] theorem ff_122_0 (cs : List AV) : aFieldAddr Tryd.prog 122 (.fptr cs) 0 = some (0 ≤ cs.length, .fptr (cs.drop 0)) := fieldAddr_fptr (n := 0) rfl cs
@[go_sem high] theorem fv_122_0 (cs : List AV) : aField Tryd.prog 122 (.agg cs) 0 = aPart Tryd.prog 17 cs 0 := field_agg rfl cs
@[go_sem high] theorem fa_122_1 (id g i c : Nat) : aFieldAddr Tryd.prog 122 (.ptr id g i c) 1 = some (True, .ptr id g i (c + 1)) := fieldAddr_ptr (n := 0) rfl id g i c
@[go_sem high] theorem ff_122_1 (cs : List AV) : aFieldAddr Tryd.prog 122 (.fptr cs) 1 = some (1 ≤ cs.length, .fptr (cs.drop 1)) := fieldAddr_fptr (n := 0) rfl cs
@[go_sem high] theorem fv_122_1 (cs : List AV) : aField Tryd.prog 122 (.agg cs) 1 = aPart Tryd.prog 17 cs 1 := field_agg rfl cs
@[go_sem high] theorem fa_122_2 (id g i c : Nat) : aFieldAddr Tryd.prog 122 (.ptr id g i c) 2 = some (True, .ptr id g i (c + 2)) := fieldAddr_ptr (n := 0) rfl id g i c
@[go_sem high] theorem ff_122_2 (cs : List AV) : aFieldAddr Tryd.prog 122 (.fptr cs) 2 = some (2 ≤ cs.length, .fptr (cs.drop 2)) := fieldAddr_fptr (n := 0) rfl cs
@[go_sem high] theorem fv_122_2 (cs : List AV) : aField Tryd.prog 122 (.agg cs) 2 = aPart Tryd.prog 17 cs 2 := field_agg rfl cs
@[go_sem high] theorem fa_122_3 (id g i c : Nat) : aFieldAddr Tryd.prog 122 (.ptr id g i c) 3 = some (True, .ptr id g i (c + 3)) := fieldAddr_ptr (n := 0) rfl id g i c
@[go_sem high] theorem ff_122_3 (cs : List AV) : aFieldAddr Tryd.prog 122 (.fptr cs) 3 = some (3 ≤ cs.length, .fptr (cs.drop 3)) := fieldAddr_fptr (n := 0) rfl cs
@[go_sem high] theorem fv_122_3 (cs : List AV) : aField Tryd.prog 122 (.agg cs) 3 = aPart Tryd.prog 9 cs 3 := field_agg rfl cs
@[go_sem high] theorem fv_124_0 (cs : List AV) : aField Tryd.prog 124 (.agg cs) 0 = aPart Tryd.prog 123 cs 0 := field_agg rfl cs
@[go_sem high] theorem fv_125_0 (cs : List AV) : aField Tryd.prog 125 (.agg cs) 0 = aPart Tryd.prog 123 cs 0 := field_agg rfl cs
@[go_sem high] theorem fa_131_0 (id g i c : Nat) : aFieldAddr Tryd.prog 131 (.ptr id g i c) 0 = some (True, .ptr id g i (c + 0)) := fieldAddr_ptr (n := 0) rfl id g i c
@[go_sem high] theorem ff_131_0 (cs : List AV) : aFieldAddr Tryd.prog 131 (.fptr cs) 0 = some (0 ≤ cs.length, .fptr (cs.drop 0)) := fieldAddr_fptr (n := 0) rfl cs
@[go_sem high] theorem fv_131_0 (cs : List AV) : aField Tryd.prog 131 (.agg cs) 0 = aPart Tryd.prog 12 cs 0 := field_agg rfl cs
@[go_sem high] theorem fa_131_1 (id g i c : Nat) : aFieldAddr Tryd.prog 131 (.ptr id g i c) 1 = some (True, .ptr id g i (c + 1)) := fieldAddr_ptr (n := 0) rfl id g i c
@[go_sem high] theorem ff_131_1 (cs : List AV) : aFieldAddr Tryd.prog 131 (.fptr cs) 1 = some (1 ≤ cs.length, .fptr (cs.drop 1)) := fieldAddr_fptr (n := 0) rfl cs
@[go_sem high] theorem fv_131_1 (cs : List AV) : aField Tryd.prog 131 (.agg cs) 1 = aPart Tryd.prog 12 cs 1 := field_agg rfl cs
@[go_sem high] theorem fa_131_2 (id g i c : Nat) : aFieldAddr Tryd.prog 131 (.ptr id g i c) 2 = some (True, .ptr id g i (c + 2)) := fieldAddr_ptr (n := 0) rfl id g i c
@[go_sem high] theorem ff_131_2 (cs : List AV) : aFieldAddr Tryd.prog 131 (.fptr cs) 2 = some (2 ≤ cs.length, .fptr (cs.drop 2)) := fieldAddr_fptr (n := 0) rfl cs
@[go_sem high] theorem fv_131_2 (cs : List AV) : aField Tryd.prog 131 (.agg cs) 2 = aPart Tryd.prog 104 cs 2 := field_agg rfl cs
@[go_sem high] theorem fa_131_3 (id g i c : Nat) : aFieldAddr Tryd.prog 131 (.ptr id g i c) 3 = some (True, .ptr id g i (c + 3)) := fieldAddr_ptr (n := 0) rfl id g i c
@[go_sem high] theorem ff_131_3 (cs : List AV) : aFieldAddr Tryd.prog 131 (.fptr cs) 3 = some (3 ≤ cs.length, .fptr (cs.drop 3)) := fieldAddr_fptr (n := 0) rfl cs
@[go_sem high] theorem fv_131_3 (cs : List AV) : aField Tryd.prog 131 (.agg cs) 3 = aPart Tryd.prog 126 cs 3 := field_agg rfl cs
@[go_sem high] theorem fa_131_4 (id g i c : Nat) : aFieldAddr Tryd.prog 131 (.ptr id g i c) 4 = some (True, .ptr id g i (c + 4)) := fieldAddr_ptr (n := 0) rfl id g i c
@[go_sem high] theorem ff_131_4 (cs : List AV) : aFieldAddr Tryd.prog 131 (.fptr cs) 4 = some (4 ≤ cs.length, .fptr (cs.drop 4)) := fieldAddr_fptr (n := 0) rfl cs
@[go_sem high] theorem fv_131_4 (cs : List AV) : aField Tryd.prog 131 (.agg cs) 4 = aPart Tryd.prog 5 cs 4 := field_agg rfl cs
@[go_sem high] theorem fa_131_5 (id g i c : Nat) : aFieldAddr Tryd.prog 131 (.ptr id g i c) 5 = some (True, .ptr id g i (c + 5)) := fieldAddr_ptr (n := 0) rfl id g i c
@[go_sem high] theorem ff_131_5 (cs : List AV) : aFieldAddr Tryd.prog 131 (.fptr cs) 5 = some (5 ≤ cs.length, .fptr (cs.drop 5)) := fieldAddr_fptr (n := 0) rfl cs
@[go_sem high] theorem fv_131_5 (cs : List AV) : aField Tryd.prog 131 (.agg cs) 5 = aPart Tryd.prog 5 cs 5 := field_agg rfl cs
@[go_sem high] theorem fa_131_6 (id g i c : Nat) : aFieldAddr Tryd.prog 131 (.ptr id g i c) 6 = some (True, .ptr id g i (c + 6)) := fieldAddr_ptr (n := 0) rfl id g i c
@[go_sem high] theorem ff_131_6 (cs : List AV) : aFieldAddr Tryd.prog 131 (.fptr cs) 6 = some (6 ≤ cs.length, .fptr (cs.drop 6)) := fieldAddr_fptr (n := 0) rfl cs
@[go_sem high] theorem fv_131_6 (cs : List AV) : aField Tryd.prog 131 (.agg cs) 6 = aPart Tryd.prog 127 cs 6 := field_agg rfl cs
@[go_sem high] theorem fa_131_7 (id g i c : Nat) : aFieldAddr Tryd.prog 131 (.ptr id g i c) 7 = some (True, .ptr id g i (c + 7)) := fieldAddr_ptr (n := 0) rfl id g i c
@[go_sem high] theorem ff_131_7 (cs : List AV) : aFieldAddr Tryd.prog 131 (.fptr cs) 7 = some (7 ≤ cs.length, .fptr (cs.drop 7)) := fieldAddr_fptr (n := 0) rfl cs
@[go_sem high] theorem fv_131_7 (cs : List AV) : aField Tryd.prog 131 (.agg cs) 7 = aPart Tryd.prog 128 cs 7 := field_agg rfl cs
@[go_sem high] theorem fa_131_8 (id g i c : Nat) : aFieldAddr Tryd.prog 131 (.ptr id g i c) 8 = some (True, .ptr id g i (c + 8)) := fieldAddr_ptr (n := 0) rfl id g i c
@[go_sem high] theorem ff_131_8 (cs : List AV) : aFieldAddr Tryd.prog 131 (.fptr cs) 8 = some (8 ≤ cs.length, .fptr (cs.drop 8)) := fieldAddr_fptr (n := 0) rfl cs
@[go_sem high] theorem fv_131_8 (cs : List AV) : aField Tryd.prog 131 (.agg cs) 8 = aPart Tryd.prog 85 cs 8 := field_agg rfl cs
@[go_sem high] theorem fa_131_9 (id g i c : Nat) : aFieldAddr Tryd.prog 131 (.ptr id g i c) 9 = some (True, .ptr id g i (c + 9)) := fieldAddr_ptr (n := 0) rfl id g i c
@[go_sem high] theorem ff_131_9 (cs : List AV) : aFieldAddr Tryd.prog 131 (.fptr cs) 9 = some (9 ≤ cs.length, .fptr (cs.drop 9)) := fieldAddr_fptr (n := 0) rfl cs
@[go_sem high] theorem fv_131_9 (cs : List AV) : aField Tryd.prog 131 (.agg cs) 9 = aPart Tryd.prog 129 cs 9 := field_agg rfl cs
@[go_sem high] theorem fa_132_0 (id g i c : Nat) : aFieldAddr Tryd.prog 132 (.ptr id g i c) 0 = some (True, .ptr id g i (c + 0)) := fieldAddr_ptr (n := 0) rfl id g i c
@[go_sem high] theorem ff_132_0 (cs : List AV) : aFieldAddr Tryd.prog 132 (.fptr cs) 0 = some (0 ≤ cs.length, .fptr (cs.drop 0)) := fieldAddr_fptr (n := 0) rfl cs
@[go_sem high] theorem fv_132_0 (cs : List AV) : aField Tryd.prog 132 (.agg cs) 0 = aPart Tryd.prog 12 cs 0 := field_agg rfl cs
@[go_sem high] theorem fa_132_1 (id g i c : Nat) : aFieldAddr Tryd.prog 132 (.ptr id g i c) 1 = some (True, .ptr id g i (c + 1)) := fieldAddr_ptr (n := 0) rfl id g i c
@[go_sem high] theorem ff_132_1 (cs : List AV) : aFieldAddr Tryd.prog 132 (.fptr cs) 1 = some (1 ≤ cs.length, .fptr (cs.drop 1)) := fieldAddr_fptr (n := 0) rfl cs
@[go_sem high] theorem fv_132_1 (cs : List AV) : aField Tryd.prog 132 (.agg cs) 1 = aPart Tryd.prog 12 cs 1 := field_agg rfl cs
@[go_sem high] theorem fa_132_2 (id g i c : Nat) : aFieldAddr Tryd.prog 132 (.ptr id g i c) 2 = some (True, .ptr id g i (c + 2)) := fieldAddr_ptr (n := 0) rfl id g i c
@[go_sem high] theorem ff_132_2 (cs : List AV) : aFieldAddr Tryd.prog 132 (.fptr cs) 2 = some (2 ≤ cs.length, .fptr (cs.drop 2)) := fieldAddr_fptr (n := 0) rfl cs
@[go_sem high] theorem fv_132_2 (cs : List AV) : aField Tryd.prog 132 (.agg cs) 2 = aPart Tryd.prog 104 cs 2 := field_agg rfl cs
@[go_sem high] theorem fa_132_3 (id g i c : Nat) : aFieldAddr Tryd.prog 132 (.ptr id g i c) 3 = some (True, .ptr id g i (c + 3)) := fieldAddr_ptr (n := 0) rfl id g i c
@[go_sem high] theorem ff_132_3 (cs : List AV) : aFieldAddr Tryd.prog 132 (.fptr cs) 3 = some (3 ≤ cs.length, .fptr (cs.drop 3)) := fieldAddr_fptr (n := 0) rfl cs
@[go_sem high] theorem fv_132_3 (cs : List AV) : aField Tryd.prog 132 (.agg cs) 3 = aPart Tryd.prog 126 cs 3 := field_agg rfl cs
@[go_sem high] theorem fa_132_4 (id g i c : Nat) : aFieldAddr Tryd.prog 132 (.ptr id g i c) 4 = some (True, .ptr id g i (c + 4)) := fieldAddr_ptr (n := 0) rfl id g i c
@[go_sem high] theorem ff_132_4 (cs : List AV) : aFieldAddr Tryd.prog 132 (.fptr cs) 4 = some (4 ≤ cs.length, .fptr (cs.drop 4)) := fieldAddr_fptr (n := 0) rfl cs
@[go_sem high] theorem fv_132_4 (cs : List AV) : aField Tryd.prog 132 (.agg cs) 4 = aPart Tryd.prog 5 cs 4 := field_agg rfl cs
@[go_sem high] theorem fa_132_5 (id g i c : Nat) : aFieldAddr Tryd.prog 132 (.ptr id g i c) 5 = some (True, .ptr id g i (c + 5)) := fieldAddr_ptr (n := 0) rfl id g i c
@[go_sem high] theorem ff_132_5 (cs : List AV) : aFieldAddr Tryd.prog 132 (.fptr cs) 5 = some (5 ≤ cs.length, .fptr (cs.drop 5)) := fieldAddr_fptr (n := 0) rfl cs
@[go_sem high] theorem fv_132_5 (cs : List AV) : aField Tryd.prog 132 (.agg cs) 5 = aPart Tryd.prog 5 cs 5 := field_agg rfl cs
@[go_sem high] theorem fa_132_6 (id g i c : Nat) : aFieldAddr Tryd.prog 132 (.ptr id g i c) 6 = some (True, .ptr id g i (c + 6)) := fieldAddr_ptr (n := 0) rfl id g i c
@[go_sem high] theorem ff_132_6 (cs : List AV) : aFieldAddr Tryd.prog 132 (.fptr cs) 6 = some (6 ≤ cs.length, .fptr (cs.drop 6)) := fieldAddr_fptr (n := 0) rfl cs
@[go_sem high] theorem fv_132_6 (cs : List AV) : aField Tryd.prog 132 (.agg cs) 6 = aPart Tryd.prog 127 cs 6 := field_agg rfl cs
@[go_sem high] theorem fa_132_7 (id g i c : Nat) : aFieldAddr Tryd.prog 132 (.ptr id g i c) 7 = some (True, .ptr id g i (c + 7)) := fieldAddr_ptr (n := 0) rfl id g i c
@[go_sem high] theorem ff_132_7 (cs : List AV) : aFieldAddr Tryd.prog 132 (.fptr cs) 7 = some (7 ≤ cs.length, .fptr (cs.drop 7)) := fieldAddr_fptr (n := 0) rfl cs
@[go_sem high] theorem fv_132_7 (cs : List AV) : aField Tryd.prog 132 (.agg cs) 7 = aPart Tryd.prog 128 cs 7 := field_agg rfl cs
@[go_sem high] theorem fa_132_8 (id g i c : Nat) : aFieldAddr Tryd.prog 132 (.ptr id g i c) 8 = some (True, .ptr id g i (c + 8)) := fieldAddr_ptr (n := 0) rfl id g i c
@[go_sem high] theorem ff_132_8 (cs : List AV) : aFieldAddr Tryd.prog 132 (.fptr cs) 8 = some (8 ≤ cs.length, .fptr (cs.drop 8)) := fieldAddr_fptr (n := 0) rfl cs
@[go_sem high] theorem fv_132_8 (cs : List AV) : aField Tryd.prog 132 (.agg cs) 8 = aPart Tryd.prog 85 cs 8 := field_agg rfl cs
@[go_sem high] theorem fa_132_9 (id g i c : Nat) : aFieldAddr Tryd.prog 132 (.ptr id g i c) 9 = some (True, .ptr id g i (c + 9)) := fieldAddr_ptr (n := 0) rfl id g i c
@[go_sem high] theorem ff_132_9 (cs : List AV) : aFieldAddr Tryd.prog 132 (.fptr cs) 9 = some (9 ≤ cs.length, .fptr (cs.drop 9)) := fieldAddr_fptr (n := 0) rfl cs
@[go_sem high] theorem fv_132_9 (cs : List AV) : aField Tryd.prog 132 (.agg cs) 9 = aPart Tryd.prog 129 cs 9 := field_agg rfl cs
end Go.Almanac
