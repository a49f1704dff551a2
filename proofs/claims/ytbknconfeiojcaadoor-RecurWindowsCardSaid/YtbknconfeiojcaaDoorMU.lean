/- The types, as equations (written by types.py). -/
import Derived.Test.YtbknconfeiojcaaDoorProg
import Derived.Test.YtbknconfeiojcaaDoorM2
/- The types, as equations (written by types.py). -/
namespace Go.Almanac
open Go.RowKit Go.Proofs Go.Abs
set_option maxRecDepth 1000000

@[go_sem] theorem aggT_0 : aggT Tryd.prog 0 = some false := rfl
@[go_sem] theorem tsz_0 : tsz Tryd.prog 0 = some 1 := rfl
@[go_sem] theorem hasZero_0 : hasZero Tryd.prog 0 = some 1 := rfl
@[go_sem] theorem tby_0 : tby Tryd.prog 0 = some 0 := rfl
@[go_sem] theorem zro_0 : zeroC Tryd.prog 0 = some [Abs.AV.tup []] := rfl
@[go_sem] theorem und_2 : Tryd.prog.underlying 2 = some (.int .i64) := rfl
@[go_sem] theorem aggT_2 : aggT Tryd.prog 2 = some false := rfl
@[go_sem] theorem tsz_2 : tsz Tryd.prog 2 = some 1 := rfl
@[go_sem] theorem hasZero_2 : hasZero Tryd.prog 2 = some 1 := rfl
@[go_sem] theorem tby_2 : tby Tryd.prog 2 = some 8 := rfl
@[go_sem] theorem zro_2 : zeroC Tryd.prog 2 = some [Abs.AV.int IntKind.i64 0] := rfl
@[go_sem] theorem und_3 : Tryd.prog.underlying 3 = some (.int .i64) := rfl
@[go_sem] theorem aggT_3 : aggT Tryd.prog 3 = some false := rfl
@[go_sem] theorem tsz_3 : tsz Tryd.prog 3 = some 1 := rfl
@[go_sem] theorem hasZero_3 : hasZero Tryd.prog 3 = some 1 := rfl
@[go_sem] theorem tby_3 : tby Tryd.prog 3 = some 8 := rfl
@[go_sem] theorem zro_3 : zeroC Tryd.prog 3 = some [Abs.AV.int IntKind.i64 0] := rfl
@[go_sem] theorem und_4 : Tryd.prog.underlying 4 = some (.bool) := rfl
@[go_sem] theorem aggT_4 : aggT Tryd.prog 4 = some false := rfl
@[go_sem] theorem tsz_4 : tsz Tryd.prog 4 = some 1 := rfl
@[go_sem] theorem hasZero_4 : hasZero Tryd.prog 4 = some 1 := rfl
@[go_sem] theorem tby_4 : tby Tryd.prog 4 = some 1 := rfl
@[go_sem] theorem zro_4 : zeroC Tryd.prog 4 = some [Abs.AV.bool false] := rfl
@[go_sem] theorem und_5 : Tryd.prog.underlying 5 = some (.int .u8) := rfl
@[go_sem] theorem aggT_5 : aggT Tryd.prog 5 = some false := rfl
@[go_sem] theorem tsz_5 : tsz Tryd.prog 5 = some 1 := rfl
@[go_sem] theorem hasZero_5 : hasZero Tryd.prog 5 = some 1 := rfl
@[go_sem] theorem tby_5 : tby Tryd.prog 5 = some 1 := rfl
@[go_sem] theorem zro_5 : zeroC Tryd.prog 5 = some [Abs.AV.int IntKind.u8 0] := rfl
@[go_sem] theorem und_9 : Tryd.prog.underlying 9 = some (.string) := rfl
@[go_sem] theorem aggT_9 : aggT Tryd.prog 9 = some false := rfl
@[go_sem] theorem tsz_9 : tsz Tryd.prog 9 = some 1 := rfl
@[go_sem] theorem hasZero_9 : hasZero Tryd.prog 9 = some 1 := rfl
@[go_sem] theorem tby_9 : tby Tryd.prog 9 = some 16 := rfl
@[go_sem] theorem zro_9 : zeroC Tryd.prog 9 = some [Abs.AV.str []] := rfl
@[go_sem] theorem aggT_20 : aggT Tryd.prog 20 = some false := rfl
@[go_sem] theorem tsz_20 : tsz Tryd.prog 20 = some 1 := rfl
@[go_sem] theorem hasZero_20 : hasZero Tryd.prog 20 = some 1 := rfl
@[go_sem] theorem tby_20 : tby Tryd.prog 20 = some 16 := rfl
@[go_sem] theorem zro_20 : zeroC Tryd.prog 20 = some [Abs.AV.nili] := rfl
@[go_sem] theorem aggT_23 : aggT Tryd.prog 23 = some true := rfl
@[go_sem] theorem tsz_23 : tsz Tryd.prog 23 = some 2 := rfl
@[go_sem] theorem hasZero_23 : hasZero Tryd.prog 23 = some 2 := rfl
@[go_sem] theorem tby_23 : tby Tryd.prog 23 = some 16 := rfl
@[go_sem] theorem szs_23 : szsOf Tryd.prog 23 = true := rfl
@[go_sem] theorem zro_23 : zeroC Tryd.prog 23 = some [Abs.AV.int IntKind.i64 0, Abs.AV.int IntKind.i64 0] := rfl
@[go_sem] theorem aggT_24 : aggT Tryd.prog 24 = some false := rfl
@[go_sem] theorem tsz_24 : tsz Tryd.prog 24 = some 1 := rfl
@[go_sem] theorem hasZero_24 : hasZero Tryd.prog 24 = some 1 := rfl
@[go_sem] theorem tby_24 : tby Tryd.prog 24 = some 0 := rfl
@[go_sem] theorem zro_24 : zeroC Tryd.prog 24 = some [Abs.AV.junk] := rfl
@[go_sem] theorem aggT_26 : aggT Tryd.prog 26 = some false := rfl
@[go_sem] theorem tsz_26 : tsz Tryd.prog 26 = some 1 := rfl
@[go_sem] theorem hasZero_26 : hasZero Tryd.prog 26 = some 1 := rfl
@[go_sem] theorem tby_26 : tby Tryd.prog 26 = some 8 := rfl
@[go_sem] theorem zro_26 : zeroC Tryd.prog 26 = some [Abs.AV.nilf] := rfl
@[go_sem] theorem aggT_29 : aggT Tryd.prog 29 = some true := rfl
@[go_sem] theorem tsz_29 : tsz Tryd.prog 29 = some 3 := rfl
@[go_sem] theorem hasZero_29 : hasZero Tryd.prog 29 = some 3 := rfl
@[go_sem] theorem tby_29 : tby Tryd.prog 29 = some 16 := rfl
@[go_sem] theorem szs_29 : szsOf Tryd.prog 29 = true := rfl
@[go_sem] theorem zro_29 : zeroC Tryd.prog 29 = some [Abs.AV.int IntKind.i64 0, Abs.AV.bool false, Abs.AV.bool false] := rfl
@[go_sem] theorem und_30 : Tryd.prog.underlying 30 = some (.slice 3) := rfl
@[go_sem] theorem aggT_30 : aggT Tryd.prog 30 = some false := rfl
@[go_sem] theorem tsz_30 : tsz Tryd.prog 30 = some 1 := rfl
@[go_sem] theorem hasZero_30 : hasZero Tryd.prog 30 = some 1 := rfl
@[go_sem] theorem tby_30 : tby Tryd.prog 30 = some 24 := rfl
@[go_sem] theorem zro_30 : zeroC Tryd.prog 30 = some [Abs.AV.nils] := rfl
@[go_sem] theorem und_31 : Tryd.prog.underlying 31 = some (.slice 23) := rfl
@[go_sem] theorem aggT_31 : aggT Tryd.prog 31 = some false := rfl
@[go_sem] theorem tsz_31 : tsz Tryd.prog 31 = some 1 := rfl
@[go_sem] theorem hasZero_31 : hasZero Tryd.prog 31 = some 1 := rfl
@[go_sem] theorem tby_31 : tby Tryd.prog 31 = some 24 := rfl
@[go_sem] theorem zro_31 : zeroC Tryd.prog 31 = some [Abs.AV.nils] := rfl
@[go_sem] theorem aggT_33 : aggT Tryd.prog 33 = some true := rfl
@[go_sem] theorem tsz_33 : tsz Tryd.prog 33 = some 12 := rfl
@[go_sem] theorem hasZero_33 : hasZero Tryd.prog 33 = some 12 := rfl
@[go_sem] theorem tby_33 : tby Tryd.prog 33 = some 152 := rfl
@[go_sem] theorem szs_33 : szsOf Tryd.prog 33 = true := rfl
@[go_sem] theorem zro_33 : zeroC Tryd.prog 33 = some [Abs.AV.int IntKind.i64 0, Abs.AV.int IntKind.i64 0, Abs.AV.int IntKind.i64 0, Abs.AV.bool false, Abs.AV.int IntKind.i64 0, Abs.AV.bool false, Abs.AV.bool false, Abs.AV.nils, Abs.AV.nils, Abs.AV.nils, Abs.AV.nils, Abs.AV.int IntKind.i64 0] := rfl
@[go_sem] theorem und_34 : Tryd.prog.underlying 34 = some (.slice 2) := rfl
@[go_sem] theorem aggT_34 : aggT Tryd.prog 34 = some false := rfl
@[go_sem] theorem tsz_34 : tsz Tryd.prog 34 = some 1 := rfl
@[go_sem] theorem hasZero_34 : hasZero Tryd.prog 34 = some 1 := rfl
@[go_sem] theorem tby_34 : tby Tryd.prog 34 = some 24 := rfl
@[go_sem] theorem zro_34 : zeroC Tryd.prog 34 = some [Abs.AV.nils] := rfl
@[go_sem] theorem und_35 : Tryd.prog.underlying 35 = some (.int .i64) := rfl
@[go_sem] theorem aggT_35 : aggT Tryd.prog 35 = some false := rfl
@[go_sem] theorem tsz_35 : tsz Tryd.prog 35 = some 1 := rfl
@[go_sem] theorem hasZero_35 : hasZero Tryd.prog 35 = some 1 := rfl
@[go_sem] theorem tby_35 : tby Tryd.prog 35 = some 8 := rfl
@[go_sem] theorem zro_35 : zeroC Tryd.prog 35 = some [Abs.AV.int IntKind.i64 0] := rfl
@[go_sem] theorem aggT_36 : aggT Tryd.prog 36 = some false := rfl
@[go_sem] theorem tsz_36 : tsz Tryd.prog 36 = some 1 := rfl
@[go_sem] theorem hasZero_36 : hasZero Tryd.prog 36 = some 1 := rfl
@[go_sem] theorem tby_36 : tby Tryd.prog 36 = some 0 := rfl
@[go_sem] theorem zro_36 : zeroC Tryd.prog 36 = some [Abs.AV.junk] := rfl
@[go_sem] theorem aggT_38 : aggT Tryd.prog 38 = some false := rfl
@[go_sem] theorem tsz_38 : tsz Tryd.prog 38 = some 1 := rfl
@[go_sem] theorem hasZero_38 : hasZero Tryd.prog 38 = some 1 := rfl
@[go_sem] theorem tby_38 : tby Tryd.prog 38 = some 0 := rfl
@[go_sem] theorem zro_38 : zeroC Tryd.prog 38 = some [Abs.AV.junk] := rfl
@[go_sem] theorem aggT_43 : aggT Tryd.prog 43 = some false := rfl
@[go_sem] theorem tsz_43 : tsz Tryd.prog 43 = some 1 := rfl
@[go_sem] theorem hasZero_43 : hasZero Tryd.prog 43 = some 1 := rfl
@[go_sem] theorem tby_43 : tby Tryd.prog 43 = some 8 := rfl
@[go_sem] theorem zro_43 : zeroC Tryd.prog 43 = some [Abs.AV.nilf] := rfl
@[go_sem] theorem aggT_44 : aggT Tryd.prog 44 = some false := rfl
@[go_sem] theorem tsz_44 : tsz Tryd.prog 44 = some 1 := rfl
@[go_sem] theorem hasZero_44 : hasZero Tryd.prog 44 = some 1 := rfl
@[go_sem] theorem tby_44 : tby Tryd.prog 44 = some 8 := rfl
@[go_sem] theorem zro_44 : zeroC Tryd.prog 44 = some [Abs.AV.nilf] := rfl
@[go_sem] theorem aggT_49 : aggT Tryd.prog 49 = some false := rfl
@[go_sem] theorem tsz_49 : tsz Tryd.prog 49 = some 1 := rfl
@[go_sem] theorem hasZero_49 : hasZero Tryd.prog 49 = some 1 := rfl
@[go_sem] theorem tby_49 : tby Tryd.prog 49 = some 0 := rfl
@[go_sem] theorem zro_49 : zeroC Tryd.prog 49 = some [Abs.AV.junk] := rfl
@[go_sem] theorem aggT_51 : aggT Tryd.prog 51 = some false := rfl
@[go_sem] theorem tsz_51 : tsz Tryd.prog 51 = some 1 := rfl
@[go_sem] theorem hasZero_51 : hasZero Tryd.prog 51 = some 1 := rfl
@[go_sem] theorem tby_51 : tby Tryd.prog 51 = some 8 := rfl
@[go_sem] theorem zro_51 : zeroC Tryd.prog 51 = some [Abs.AV.nilf] := rfl
@[go_sem] theorem aggT_52 : aggT Tryd.prog 52 = some false := rfl
@[go_sem] theorem tsz_52 : tsz Tryd.prog 52 = some 1 := rfl
@[go_sem] theorem hasZero_52 : hasZero Tryd.prog 52 = some 1 := rfl
@[go_sem] theorem tby_52 : tby Tryd.prog 52 = some 8 := rfl
@[go_sem] theorem zro_52 : zeroC Tryd.prog 52 = some [Abs.AV.nilf] := rfl
@[go_sem] theorem aggT_54 : aggT Tryd.prog 54 = some false := rfl
@[go_sem] theorem tsz_54 : tsz Tryd.prog 54 = some 1 := rfl
@[go_sem] theorem hasZero_54 : hasZero Tryd.prog 54 = some 1 := rfl
@[go_sem] theorem tby_54 : tby Tryd.prog 54 = some 0 := rfl
@[go_sem] theorem zro_54 : zeroC Tryd.prog 54 = some [Abs.AV.junk] := rfl
@[go_sem] theorem und_55 : Tryd.prog.underlying 55 = some (.pointer 70) := rfl
@[go_sem] theorem aggT_55 : aggT Tryd.prog 55 = some false := rfl
@[go_sem] theorem tsz_55 : tsz Tryd.prog 55 = some 1 := rfl
@[go_sem] theorem hasZero_55 : hasZero Tryd.prog 55 = some 1 := rfl
@[go_sem] theorem tby_55 : tby Tryd.prog 55 = some 8 := rfl
@[go_sem] theorem zro_55 : zeroC Tryd.prog 55 = some [Abs.AV.nilp] := rfl
@[go_sem] theorem aggT_61 : aggT Tryd.prog 61 = some false := rfl
@[go_sem] theorem tsz_61 : tsz Tryd.prog 61 = some 1 := rfl
@[go_sem] theorem hasZero_61 : hasZero Tryd.prog 61 = some 1 := rfl
@[go_sem] theorem tby_61 : tby Tryd.prog 61 = some 8 := rfl
@[go_sem] theorem zro_61 : zeroC Tryd.prog 61 = some [Abs.AV.nilf] := rfl
@[go_sem] theorem aggT_65 : aggT Tryd.prog 65 = some false := rfl
@[go_sem] theorem tsz_65 : tsz Tryd.prog 65 = some 1 := rfl
@[go_sem] theorem hasZero_65 : hasZero Tryd.prog 65 = some 1 := rfl
@[go_sem] theorem tby_65 : tby Tryd.prog 65 = some 8 := rfl
@[go_sem] theorem zro_65 : zeroC Tryd.prog 65 = some [Abs.AV.nilf] := rfl
@[go_sem] theorem aggT_70 : aggT Tryd.prog 70 = some true := rfl
@[go_sem] theorem tsz_70 : tsz Tryd.prog 70 = some 18 := rfl
@[go_sem] theorem hasZero_70 : hasZero Tryd.prog 70 = some 18 := rfl
@[go_sem] theorem tby_70 : tby Tryd.prog 70 = some 200 := rfl
@[go_sem] theorem szs_70 : szsOf Tryd.prog 70 = true := rfl
@[go_sem] theorem aggT_71 : aggT Tryd.prog 71 = some false := rfl
@[go_sem] theorem tsz_71 : tsz Tryd.prog 71 = some 1 := rfl
@[go_sem] theorem hasZero_71 : hasZero Tryd.prog 71 = some 1 := rfl
@[go_sem] theorem tby_71 : tby Tryd.prog 71 = some 0 := rfl
@[go_sem] theorem zro_71 : zeroC Tryd.prog 71 = some [Abs.AV.junk] := rfl
@[go_sem] theorem aggT_73 : aggT Tryd.prog 73 = some false := rfl
@[go_sem] theorem tsz_73 : tsz Tryd.prog 73 = some 1 := rfl
@[go_sem] theorem hasZero_73 : hasZero Tryd.prog 73 = some 1 := rfl
@[go_sem] theorem tby_73 : tby Tryd.prog 73 = some 8 := rfl
@[go_sem] theorem zro_73 : zeroC Tryd.prog 73 = some [Abs.AV.nilf] := rfl
@[go_sem] theorem aggT_74 : aggT Tryd.prog 74 = some false := rfl
@[go_sem] theorem tsz_74 : tsz Tryd.prog 74 = some 1 := rfl
@[go_sem] theorem hasZero_74 : hasZero Tryd.prog 74 = some 1 := rfl
@[go_sem] theorem tby_74 : tby Tryd.prog 74 = some 8 := rfl
@[go_sem] theorem zro_74 : zeroC Tryd.prog 74 = some [Abs.AV.nilf] := rfl
@[go_sem] theorem aggT_77 : aggT Tryd.prog 77 = some true := rfl
@[go_sem] theorem tsz_77 : tsz Tryd.prog 77 = some 2 := rfl
@[go_sem] theorem hasZero_77 : hasZero Tryd.prog 77 = some 2 := rfl
@[go_sem] theorem tby_77 : tby Tryd.prog 77 = some 16 := rfl
@[go_sem] theorem szs_77 : szsOf Tryd.prog 77 = true := rfl
@[go_sem] theorem zro_77 : zeroC Tryd.prog 77 = some [Abs.AV.int IntKind.i64 0, Abs.AV.int IntKind.i64 0] := rfl
@[go_sem] theorem aggT_80 : aggT Tryd.prog 80 = some false := rfl
@[go_sem] theorem tsz_80 : tsz Tryd.prog 80 = some 1 := rfl
@[go_sem] theorem hasZero_80 : hasZero Tryd.prog 80 = some 1 := rfl
@[go_sem] theorem tby_80 : tby Tryd.prog 80 = some 8 := rfl
@[go_sem] theorem zro_80 : zeroC Tryd.prog 80 = some [Abs.AV.nilf] := rfl
@[go_sem] theorem aggT_81 : aggT Tryd.prog 81 = some false := rfl
@[go_sem] theorem tsz_81 : tsz Tryd.prog 81 = some 1 := rfl
@[go_sem] theorem hasZero_81 : hasZero Tryd.prog 81 = some 1 := rfl
@[go_sem] theorem tby_81 : tby Tryd.prog 81 = some 8 := rfl
@[go_sem] theorem zro_81 : zeroC Tryd.prog 81 = some [Abs.AV.nilf] := rfl
@[go_sem] theorem aggT_83 : aggT Tryd.prog 83 = some true := rfl
@[go_sem] theorem tsz_83 : tsz Tryd.prog 83 = some 12 := rfl
@[go_sem] theorem hasZero_83 : hasZero Tryd.prog 83 = some 12 := rfl
@[go_sem] theorem tby_83 : tby Tryd.prog 83 = some 96 := rfl
@[go_sem] theorem zro_83 : zeroC Tryd.prog 83 = some [Abs.AV.int IntKind.i64 0, Abs.AV.int IntKind.i64 0, Abs.AV.int IntKind.i64 0, Abs.AV.int IntKind.i64 0, Abs.AV.int IntKind.i64 0, Abs.AV.int IntKind.i64 0, Abs.AV.int IntKind.i64 0, Abs.AV.int IntKind.i64 0, Abs.AV.int IntKind.i64 0, Abs.AV.int IntKind.i64 0, Abs.AV.int IntKind.i64 0, Abs.AV.int IntKind.i64 0] := rfl
@[go_sem] theorem aggT_89 : aggT Tryd.prog 89 = some false := rfl
@[go_sem] theorem tsz_89 : tsz Tryd.prog 89 = some 1 := rfl
@[go_sem] theorem hasZero_89 : hasZero Tryd.prog 89 = some 1 := rfl
@[go_sem] theorem tby_89 : tby Tryd.prog 89 = some 8 := rfl
@[go_sem] theorem zro_89 : zeroC Tryd.prog 89 = some [Abs.AV.nilf] := rfl
@[go_sem] theorem aggT_90 : aggT Tryd.prog 90 = some false := rfl
@[go_sem] theorem tsz_90 : tsz Tryd.prog 90 = some 1 := rfl
@[go_sem] theorem hasZero_90 : hasZero Tryd.prog 90 = some 1 := rfl
@[go_sem] theorem tby_90 : tby Tryd.prog 90 = some 0 := rfl
@[go_sem] theorem zro_90 : zeroC Tryd.prog 90 = some [Abs.AV.junk] := rfl
@[go_sem] theorem aggT_92 : aggT Tryd.prog 92 = some false := rfl
@[go_sem] theorem tsz_92 : tsz Tryd.prog 92 = some 1 := rfl
@[go_sem] theorem hasZero_92 : hasZero Tryd.prog 92 = some 1 := rfl
@[go_sem] theorem tby_92 : tby Tryd.prog 92 = some 8 := rfl
@[go_sem] theorem zro_92 : zeroC Tryd.prog 92 = some [Abs.AV.nilf] := rfl
@[go_sem] theorem und_93 : Tryd.prog.underlying 93 = some (.slice 5) := rfl
@[go_sem] theorem aggT_93 : aggT Tryd.prog 93 = some false := rfl
@[go_sem] theorem tsz_93 : tsz Tryd.prog 93 = some 1 := rfl
@[go_sem] theorem hasZero_93 : hasZero Tryd.prog 93 = some 1 := rfl
@[go_sem] theorem tby_93 : tby Tryd.prog 93 = some 24 := rfl
@[go_sem] theorem zro_93 : zeroC Tryd.prog 93 = some [Abs.AV.nils] := rfl
@[go_sem] theorem und_101 : Tryd.prog.underlying 101 = some (.int .u64) := rfl
@[go_sem] theorem aggT_101 : aggT Tryd.prog 101 = some false := rfl
@[go_sem] theorem tsz_101 : tsz Tryd.prog 101 = some 1 := rfl
@[go_sem] theorem hasZero_101 : hasZero Tryd.prog 101 = some 1 := rfl
@[go_sem] theorem tby_101 : tby Tryd.prog 101 = some 8 := rfl
@[go_sem] theorem zro_101 : zeroC Tryd.prog 101 = some [Abs.AV.int IntKind.u64 0] := rfl
@[go_sem] theorem aggT_102 : aggT Tryd.prog 102 = some false := rfl
@[go_sem] theorem tsz_102 : tsz Tryd.prog 102 = some 1 := rfl
@[go_sem] theorem hasZero_102 : hasZero Tryd.prog 102 = some 1 := rfl
@[go_sem] theorem tby_102 : tby Tryd.prog 102 = some 0 := rfl
@[go_sem] theorem zro_102 : zeroC Tryd.prog 102 = some [Abs.AV.junk] := rfl
@[go_sem] theorem und_105 : Tryd.prog.underlying 105 = some (.pointer 107) := rfl
@[go_sem] theorem aggT_105 : aggT Tryd.prog 105 = some false := rfl
@[go_sem] theorem tsz_105 : tsz Tryd.prog 105 = some 1 := rfl
@[go_sem] theorem hasZero_105 : hasZero Tryd.prog 105 = some 1 := rfl
@[go_sem] theorem tby_105 : tby Tryd.prog 105 = some 8 := rfl
@[go_sem] theorem zro_105 : zeroC Tryd.prog 105 = some [Abs.AV.nilp] := rfl
@[go_sem] theorem aggT_107 : aggT Tryd.prog 107 = some true := rfl
@[go_sem] theorem tsz_107 : tsz Tryd.prog 107 = some 2 := rfl
@[go_sem] theorem hasZero_107 : hasZero Tryd.prog 107 = some 2 := rfl
@[go_sem] theorem tby_107 : tby Tryd.prog 107 = some 32 := rfl
@[go_sem] theorem szs_107 : szsOf Tryd.prog 107 = true := rfl
@[go_sem] theorem zro_107 : zeroC Tryd.prog 107 = some [Abs.AV.nilp, Abs.AV.nils] := rfl
@[go_sem] theorem aggT_111 : aggT Tryd.prog 111 = some false := rfl
@[go_sem] theorem tsz_111 : tsz Tryd.prog 111 = some 1 := rfl
@[go_sem] theorem hasZero_111 : hasZero Tryd.prog 111 = some 1 := rfl
@[go_sem] theorem tby_111 : tby Tryd.prog 111 = some 0 := rfl
@[go_sem] theorem zro_111 : zeroC Tryd.prog 111 = some [Abs.AV.junk] := rfl
@[go_sem] theorem aggT_116 : aggT Tryd.prog 116 = some true := rfl
@[go_sem] theorem tsz_116 : tsz Tryd.prog 116 = some 24 := rfl
@[go_sem] theorem hasZero_116 : hasZero Tryd.prog 116 = some 24 := rfl
@[go_sem] theorem tby_116 : tby Tryd.prog 116 = some 24 := rfl
@[go_sem] theorem und_117 : Tryd.prog.underlying 117 = some (.int .u64) := rfl
@[go_sem] theorem aggT_117 : aggT Tryd.prog 117 = some false := rfl
@[go_sem] theorem tsz_117 : tsz Tryd.prog 117 = some 1 := rfl
@[go_sem] theorem hasZero_117 : hasZero Tryd.prog 117 = some 1 := rfl
@[go_sem] theorem tby_117 : tby Tryd.prog 117 = some 8 := rfl
@[go_sem] theorem zro_117 : zeroC Tryd.prog 117 = some [Abs.AV.int IntKind.u64 0] := rfl
@[go_sem] theorem aggT_120 : aggT Tryd.prog 120 = some false := rfl
@[go_sem] theorem tsz_120 : tsz Tryd.prog 120 = some 1 := rfl
@[go_sem] theorem hasZero_120 : hasZero Tryd.prog 120 = some 1 := rfl
@[go_sem] theorem tby_120 : tby Tryd.prog 120 = some 0 := rfl
@[go_sem] theorem zro_120 : zeroC Tryd.prog 120 = some [Abs.AV.junk] := rfl
@[go_sem] theorem und_122 : Tryd.prog.underlying 122 = some (.int .u32) := rfl
@[go_sem] theorem aggT_122 : aggT Tryd.prog 122 = some false := rfl
@[go_sem] theorem tsz_122 : tsz Tryd.prog 122 = some 1 := rfl
@[go_sem] theorem hasZero_122 : hasZero Tryd.prog 122 = some 1 := rfl
@[go_sem] theorem tby_122 : tby Tryd.prog 122 = some 4 := rfl
@[go_sem] theorem zro_122 : zeroC Tryd.prog 122 = some [Abs.AV.int IntKind.u32 0] := rfl
@[go_sem] theorem aggT_123 : aggT Tryd.prog 123 = some false := rfl
@[go_sem] theorem tsz_123 : tsz Tryd.prog 123 = some 1 := rfl
@[go_sem] theorem hasZero_123 : hasZero Tryd.prog 123 = some 1 := rfl
@[go_sem] theorem tby_123 : tby Tryd.prog 123 = some 0 := rfl
@[go_sem] theorem zro_123 : zeroC Tryd.prog 123 = some [Abs.AV.junk] := rfl
@[go_sem] theorem aggT_125 : aggT Tryd.prog 125 = some false := rfl
@[go_sem] theorem tsz_125 : tsz Tryd.prog 125 = some 1 := rfl
@[go_sem] theorem hasZero_125 : hasZero Tryd.prog 125 = some 1 := rfl
@[go_sem] theorem tby_125 : tby Tryd.prog 125 = some 0 := rfl
@[go_sem] theorem zro_125 : zeroC Tryd.prog 125 = some [Abs.AV.junk] := rfl
@[go_sem high] theorem fa_7_0 (id g i c : Nat) : aFieldAddr Tryd.prog 7 (.ptr id g i c) 0 = some (True, .ptr id g i (c + 0)) := fieldAddr_ptr (n := 0) rfl id g i c
@[go_sem high] theorem ff_7_0 (cs : List AV) : aFieldAddr Tryd.prog 7 (.fptr cs) 0 = some (0 ≤ cs.length, .fptr (cs.drop 0)) := fieldAddr_fptr (n := 0) rfl cs
@[go_sem high] theorem fv_7_0 (cs : List AV) : aField Tryd.prog 7 (.agg cs) 0 = aPart Tryd.prog 2 cs 0 := field_agg rfl cs
@[go_sem high] theorem fa_7_1 (id g i c : Nat) : aFieldAddr Tryd.prog 7 (.ptr id g i c) 1 = some (True, .ptr id g i (c + 1)) := fieldAddr_ptr (n := 0) rfl id g i c
@[go_sem high] theorem ff_7_1 (cs : List AV) : aFieldAddr Tryd.prog 7 (.fptr cs) 1 = some (1 ≤ cs.length, .fptr (cs.drop 1)) := fieldAddr_fptr (n := 0) rfl cs
@[go_sem high] theorem fv_7_1 (cs : List AV) : aField Tryd.prog 7 (.agg cs) 1 = aPart Tryd.prog 3 cs 1 := field_agg rfl cs
@[go_sem high] theorem fa_7_2 (id g i c : Nat) : aFieldAddr Tryd.prog 7 (.ptr id g i c) 2 = some (True, .ptr id g i (c + 2)) := fieldAddr_ptr (n := 0) rfl id g i c
@[go_sem high] theorem ff_7_2 (cs : List AV) : aFieldAddr Tryd.prog 7 (.fptr cs) 2 = some (2 ≤ cs.length, .fptr (cs.drop 2)) := fieldAddr_fptr (n := 0) rfl cs
@[go_sem high] theorem fv_7_2 (cs : List AV) : aField Tryd.prog 7 (.agg cs) 2 = aPart Tryd.prog 4 cs 2 := field_agg rfl cs
@[go_sem high] theorem fa_7_3 (id g i c : Nat) : aFieldAddr Tryd.prog 7 (.ptr id g i c) 3 = some (True, .ptr id g i (c + 3)) := fieldAddr_ptr (n := 0) rfl id g i c
@[go_sem high] theorem ff_7_3 (cs : List AV) : aFieldAddr Tryd.prog 7 (.fptr cs) 3 = some (3 ≤ cs.length, .fptr (cs.drop 3)) := fieldAddr_fptr (n := 0) rfl cs
@[go_sem high] theorem fv_7_3 (cs : List AV) : aField Tryd.prog 7 (.agg cs) 3 = aPart Tryd.prog 6 cs 3 := field_agg rfl cs
@[go_sem high] theorem fa_8_0 (id g i c : Nat) : aFieldAddr Tryd.prog 8 (.ptr id g i c) 0 = some (True, .ptr id g i (c + 0)) := fieldAddr_ptr (n := 0) rfl id g i c
@[go_sem high] theorem ff_8_0 (cs : List AV) : aFieldAddr Tryd.prog 8 (.fptr cs) 0 = some (0 ≤ cs.length, .fptr (cs.drop 0)) := fieldAddr_fptr (n := 0) rfl cs
@[go_sem high] theorem fv_8_0 (cs : List AV) : aField Tryd.prog 8 (.agg cs) 0 = aPart Tryd.prog 2 cs 0 := field_agg rfl cs
@[go_sem high] theorem fa_8_1 (id g i c : Nat) : aFieldAddr Tryd.prog 8 (.ptr id g i c) 1 = some (True, .ptr id g i (c + 1)) := fieldAddr_ptr (n := 0) rfl id g i c
@[go_sem high] theorem ff_8_1 (cs : List AV) : aFieldAddr Tryd.prog 8 (.fptr cs) 1 = some (1 ≤ cs.length, .fptr (cs.drop 1)) := fieldAddr_fptr (n := 0) rfl cs
@[go_sem high] theorem fv_8_1 (cs : List AV) : aField Tryd.prog 8 (.agg cs) 1 = aPart Tryd.prog 3 cs 1 := field_agg rfl cs
@[go_sem high] theorem fa_8_2 (id g i c : Nat) : aFieldAddr Tryd.prog 8 (.ptr id g i c) 2 = some (True, .ptr id g i (c + 2)) := fieldAddr_ptr (n := 0) rfl id g i c
@[go_sem high] theorem ff_8_2 (cs : List AV) : aFieldAddr Tryd.prog 8 (.fptr cs) 2 = some (2 ≤ cs.length, .fptr (cs.drop 2)) := fieldAddr_fptr (n := 0) rfl cs
@[go_sem high] theorem fv_8_2 (cs : List AV) : aField Tryd.prog 8 (.agg cs) 2 = aPart Tryd.prog 4 cs 2 := field_agg rfl cs
@[go_sem high] theorem fa_8_3 (id g i c : Nat) : aFieldAddr Tryd.prog 8 (.ptr id g i c) 3 = some (True, .ptr id g i (c + 3)) := fieldAddr_ptr (n := 0) rfl id g i c
@[go_sem high] theorem ff_8_3 (cs : List AV) : aFieldAddr Tryd.prog 8 (.fptr cs) 3 = some (3 ≤ cs.length, .fptr (cs.drop 3)) := fieldAddr_fptr (n := 0) rfl cs
@[go_sem high] theorem fv_8_3 (cs : List AV) : aField Tryd.prog 8 (.agg cs) 3 = aPart Tryd.prog 6 cs 3 := field_agg rfl cs
@[go_sem high] theorem fa_13_0 (id g i c : Nat) : aFieldAddr Tryd.prog 13 (.ptr id g i c) 0 = some (True, .ptr id g i (c + 0)) := fieldAddr_ptr (n := 0) rfl id g i c
@[go_sem high] theorem ff_13_0 (cs : List AV) : aFieldAddr Tryd.prog 13 (.fptr cs) 0 = some (0 ≤ cs.length, .fptr (cs.drop 0)) := fieldAddr_fptr (n := 0) rfl cs
@[go_sem high] theorem fv_13_0 (cs : List AV) : aField Tryd.prog 13 (.agg cs) 0 = aPart Tryd.prog 9 cs 0 := field_agg rfl cs
@[go_sem high] theorem fa_13_1 (id g i c : Nat) : aFieldAddr Tryd.prog 13 (.ptr id g i c) 1 = some (True, .ptr id g i (c + 1)) := fieldAddr_ptr (n := 0) rfl id g i c
@[go_sem high] theorem ff_13_1 (cs : List AV) : aFieldAddr Tryd.prog 13 (.fptr cs) 1 = some (1 ≤ cs.length, .fptr (cs.drop 1)) := fieldAddr_fptr (n := 0) rfl cs
@[go_sem high] theorem fv_13_1 (cs : List AV) : aField Tryd.prog 13 (.agg cs) 1 = aPart Tryd.prog 12 cs 1 := field_agg rfl cs
@[go_sem high] theorem fa_14_0 (id g i c : Nat) : aFieldAddr Tryd.prog 14 (.ptr id g i c) 0 = some (True, .ptr id g i (c + 0)) := fieldAddr_ptr (n := 0) rfl id g i c
@[go_sem high] theorem ff_14_0 (cs : List AV) : aFieldAddr Tryd.prog 14 (.fptr cs) 0 = some (0 ≤ cs.length, .fptr (cs.drop 0)) := fieldAddr_fptr (n := 0) rfl cs
@[go_sem high] theorem fv_14_0 (cs : List AV) : aField Tryd.prog 14 (.agg cs) 0 = aPart Tryd.prog 9 cs 0 := field_agg rfl cs
@[go_sem high] theorem fa_14_1 (id g i c : Nat) : aFieldAddr Tryd.prog 14 (.ptr id g i c) 1 = some (True, .ptr id g i (c + 1)) := fieldAddr_ptr (n := 0) rfl id g i c
@[go_sem high] theorem ff_14_1 (cs : List AV) : aFieldAddr Tryd.prog 14 (.fptr cs) 1 = some (1 ≤ cs.length, .fptr (cs.drop 1)) := fieldAddr_fptr (n := 0) rfl cs
@[go_sem high] theorem fv_14_1 (cs : List AV) : aField Tryd.prog 14 (.agg cs) 1 = aPart Tryd.prog 12 cs 1 := field_agg rfl cs
@[go_sem high] theorem fa_18_0 (id g i c : Nat) : aFieldAddr Tryd.prog 18 (.ptr id g i c) 0 = some (True, .ptr id g i (c + 0)) := fieldAddr_ptr (n := 0) rfl id g i c
@[go_sem high] theorem ff_18_0 (cs : List AV) : aFieldAddr Tryd.prog 18 (.fptr cs) 0 = some (0 ≤ cs.length, .fptr (cs.drop 0)) := fieldAddr_fptr (n := 0) rfl cs
@[go_sem high] theorem fv_18_0 (cs : List AV) : aField Tryd.prog 18 (.agg cs) 0 = aPart Tryd.prog 17 cs 0 := field_agg rfl cs
@[go_sem high] theorem fa_19_0 (id g i c : Nat) : aFieldAddr Tryd.prog 19 (.ptr id g i c) 0 = some (True, .ptr id g i (c + 0)) := fieldAddr_ptr (n := 0) rfl id g i c
@[go_sem high] theorem ff_19_0 (cs : List AV) : aFieldAddr Tryd.prog 19 (.fptr cs) 0 = some (0 ≤ cs.length, .fptr (cs.drop 0)) := fieldAddr_fptr (n := 0) rfl cs
@[go_sem high] theorem fv_19_0 (cs : List AV) : aField Tryd.prog 19 (.agg cs) 0 = aPart Tryd.prog 17 cs 0 := field_agg rfl cs
@[go_sem high] theorem fa_22_0 (id g i c : Nat) : aFieldAddr Tryd.prog 22 (.ptr id g i c) 0 = some (True, .ptr id g i (c + 0)) := fieldAddr_ptr (n := 0) rfl id g i c
@[go_sem high] theorem ff_22_0 (cs : List AV) : aFieldAddr Tryd.prog 22 (.fptr cs) 0 = some (0 ≤ cs.length, .fptr (cs.drop 0)) := fieldAddr_fptr (n := 0) rfl cs
@[go_sem high] theorem fv_22_0 (cs : List AV) : aField Tryd.prog 22 (.agg cs) 0 = aPart Tryd.prog 3 cs 0 := field_agg rfl cs
@[go_sem high] theorem fa_22_1 (id g i c : Nat) : aFieldAddr Tryd.prog 22 (.ptr id g i c) 1 = some (True, .ptr id g i (c + 1)) := fieldAddr_ptr (n := 0) rfl id g i c
@[go_sem high] theorem ff_22_1 (cs : List AV) : aFieldAddr Tryd.prog 22 (.fptr cs) 1 = some (1 ≤ cs.length, .fptr (cs.drop 1)) := fieldAddr_fptr (n := 0) rfl cs
@[go_sem high] theorem fv_22_1 (cs : List AV) : aField Tryd.prog 22 (.agg cs) 1 = aPart Tryd.prog 3 cs 1 := field_agg rfl cs
@[go_sem] theorem fld_23_0 : fldOf Tryd.prog 23 0 = some (0, 1) := rfl
@[go_sem high] theorem fa_23_0 (id g i c : Nat) : aFieldAddr Tryd.prog 23 (.ptr id g i c) 0 = some (True, .ptr id g i (c + 0)) := fieldAddr_ptr (n := 0) rfl id g i c
@[go_sem high] theorem ff_23_0 (cs : List AV) : aFieldAddr Tryd.prog 23 (.fptr cs) 0 = some (0 ≤ cs.length, .fptr (cs.drop 0)) := fieldAddr_fptr (n := 0) rfl cs
@[go_sem high] theorem fv_23_0 (cs : List AV) : aField Tryd.prog 23 (.agg cs) 0 = aPart Tryd.prog 3 cs 0 := field_agg rfl cs
@[go_sem] theorem fld_23_1 : fldOf Tryd.prog 23 1 = some (1, 1) := rfl
@[go_sem high] theorem fa_23_1 (id g i c : Nat) : aFieldAddr Tryd.prog 23 (.ptr id g i c) 1 = some (True, .ptr id g i (c + 1)) := fieldAddr_ptr (n := 0) rfl id g i c
@[go_sem high] theorem ff_23_1 (cs : List AV) : aFieldAddr Tryd.prog 23 (.fptr cs) 1 = some (1 ≤ cs.length, .fptr (cs.drop 1)) := fieldAddr_fptr (n := 0) rfl cs
@[go_sem high] theorem fv_23_1 (cs : List AV) : aField Tryd.prog 23 (.agg cs) 1 = aPart Tryd.prog 3 cs 1 := field_agg rfl cs
@[go_sem high] theorem fa_28_0 (id g i c : Nat) : aFieldAddr Tryd.prog 28 (.ptr id g i c) 0 = some (True, .ptr id g i (c + 0)) := fieldAddr_ptr (n := 0) rfl id g i c
@[go_sem high] theorem ff_28_0 (cs : List AV) : aFieldAddr Tryd.prog 28 (.fptr cs) 0 = some (0 ≤ cs.length, .fptr (cs.drop 0)) := fieldAddr_fptr (n := 0) rfl cs
@[go_sem high] theorem fv_28_0 (cs : List AV) : aField Tryd.prog 28 (.agg cs) 0 = aPart Tryd.prog 2 cs 0 := field_agg rfl cs
@[go_sem high] theorem fa_28_1 (id g i c : Nat) : aFieldAddr Tryd.prog 28 (.ptr id g i c) 1 = some (True, .ptr id g i (c + 1)) := fieldAddr_ptr (n := 0) rfl id g i c
@[go_sem high] theorem ff_28_1 (cs : List AV) : aFieldAddr Tryd.prog 28 (.fptr cs) 1 = some (1 ≤ cs.length, .fptr (cs.drop 1)) := fieldAddr_fptr (n := 0) rfl cs
@[go_sem high] theorem fv_28_1 (cs : List AV) : aField Tryd.prog 28 (.agg cs) 1 = aPart Tryd.prog 4 cs 1 := field_agg rfl cs
@[go_sem high] theorem fa_28_2 (id g i c : Nat) : aFieldAddr Tryd.prog 28 (.ptr id g i c) 2 = some (True, .ptr id g i (c + 2)) := fieldAddr_ptr (n := 0) rfl id g i c
@[go_sem high] theorem ff_28_2 (cs : List AV) : aFieldAddr Tryd.prog 28 (.fptr cs) 2 = some (2 ≤ cs.length, .fptr (cs.drop 2)) := fieldAddr_fptr (n := 0) rfl cs
@[go_sem high] theorem fv_28_2 (cs : List AV) : aField Tryd.prog 28 (.agg cs) 2 = aPart Tryd.prog 4 cs 2 := field_agg rfl cs
@[go_sem] theorem fld_29_0 : fldOf Tryd.prog 29 0 = some (0, 1) := rfl
@[go_sem high] theorem fa_29_0 (id g i c : Nat) : aFieldAddr Tryd.prog 29 (.ptr id g i c) 0 = some (True, .ptr id g i (c + 0)) := fieldAddr_ptr (n := 0) rfl id g i c
@[go_sem high] theorem ff_29_0 (cs : List AV) : aFieldAddr Tryd.prog 29 (.fptr cs) 0 = some (0 ≤ cs.length, .fptr (cs.drop 0)) := fieldAddr_fptr (n := 0) rfl cs
@[go_sem high] theorem fv_29_0 (cs : List AV) : aField Tryd.prog 29 (.agg cs) 0 = aPart Tryd.prog 2 cs 0 := field_agg rfl cs
@[go_sem] theorem fld_29_1 : fldOf Tryd.prog 29 1 = some (1, 1) := rfl
@[go_sem high] theorem fa_29_1 (id g i c : Nat) : aFieldAddr Tryd.prog 29 (.ptr id g i c) 1 = some (True, .ptr id g i (c + 1)) := fieldAddr_ptr (n := 0) rfl id g i c
@[go_sem high] theorem ff_29_1 (cs : List AV) : aFieldAddr Tryd.prog 29 (.fptr cs) 1 = some (1 ≤ cs.length, .fptr (cs.drop 1)) := fieldAddr_fptr (n := 0) rfl cs
@[go_sem high] theorem fv_29_1 (cs : List AV) : aField Tryd.prog 29 (.agg cs) 1 = aPart Tryd.prog 4 cs 1 := field_agg rfl cs
@[go_sem] theorem fld_29_2 : fldOf Tryd.prog 29 2 = some (2, 1) := rfl
@[go_sem high] theorem fa_29_2 (id g i c : Nat) : aFieldAddr Tryd.prog 29 (.ptr id g i c) 2 = some (True, .ptr id g i (c + 2)) := fieldAddr_ptr (n := 0) rfl id g i c
@[go_sem high] theorem ff_29_2 (cs : List AV) : aFieldAddr Tryd.prog 29 (.fptr cs) 2 = some (2 ≤ cs.length, .fptr (cs.drop 2)) := fieldAddr_fptr (n := 0) rfl cs
@[go_sem high] theorem fv_29_2 (cs : List AV) : aField Tryd.prog 29 (.agg cs) 2 = aPart Tryd.prog 4 cs 2 := field_agg rfl cs
@[go_sem high] theorem fa_32_0 (id g i c : Nat) : aFieldAddr Tryd.prog 32 (.ptr id g i c) 0 = some (True, .ptr id g i (c + 0)) := fieldAddr_ptr (n := 0) rfl id g i c
@[go_sem high] theorem ff_32_0 (cs : List AV) : aFieldAddr Tryd.prog 32 (.fptr cs) 0 = some (0 ≤ cs.length, .fptr (cs.drop 0)) := fieldAddr_fptr (n := 0) rfl cs
@[go_sem high] theorem fv_32_0 (cs : List AV) : aField Tryd.prog 32 (.agg cs) 0 = aPart Tryd.prog 3 cs 0 := field_agg rfl cs
@[go_sem high] theorem fa_32_1 (id g i c : Nat) : aFieldAddr Tryd.prog 32 (.ptr id g i c) 1 = some (True, .ptr id g i (c + 1)) := fieldAddr_ptr (n := 0) rfl id g i c
@[go_sem high] theorem ff_32_1 (cs : List AV) : aFieldAddr Tryd.prog 32 (.fptr cs) 1 = some (1 ≤ cs.length, .fptr (cs.drop 1)) := fieldAddr_fptr (n := 0) rfl cs
@[go_sem high] theorem fv_32_1 (cs : List AV) : aField Tryd.prog 32 (.agg cs) 1 = aPart Tryd.prog 3 cs 1 := field_agg rfl cs
@[go_sem high] theorem fa_32_2 (id g i c : Nat) : aFieldAddr Tryd.prog 32 (.ptr id g i c) 2 = some (True, .ptr id g i (c + 2)) := fieldAddr_ptr (n := 0) rfl id g i c
@[go_sem high] theorem ff_32_2 (cs : List AV) : aFieldAddr Tryd.prog 32 (.fptr cs) 2 = some (2 ≤ cs.length, .fptr (cs.drop 2)) := fieldAddr_fptr (n := 0) rfl cs
@[go_sem high] theorem fv_32_2 (cs : List AV) : aField Tryd.prog 32 (.agg cs) 2 = aPart Tryd.prog 3 cs 2 := field_agg rfl cs
@[go_sem high] theorem fa_32_3 (id g i c : Nat) : aFieldAddr Tryd.prog 32 (.ptr id g i c) 3 = some (True, .ptr id g i (c + 3)) := fieldAddr_ptr (n := 0) rfl id g i c
@[go_sem high] theorem ff_32_3 (cs : List AV) : aFieldAddr Tryd.prog 32 (.fptr cs) 3 = some (3 ≤ cs.length, .fptr (cs.drop 3)) := fieldAddr_fptr (n := 0) rfl cs
@[go_sem high] theorem fv_32_3 (cs : List AV) : aField Tryd.prog 32 (.agg cs) 3 = aPart Tryd.prog 4 cs 3 := field_agg rfl cs
@[go_sem high] theorem fa_32_4 (id g i c : Nat) : aFieldAddr Tryd.prog 32 (.ptr id g i c) 4 = some (True, .ptr id g i (c + 4)) := fieldAddr_ptr (n := 2) rfl id g i c
@[go_sem high] theorem ff_32_4 (cs : List AV) : aFieldAddr Tryd.prog 32 (.fptr cs) 4 = some (4 ≤ cs.length, .fptr (cs.drop 4)) := fieldAddr_fptr (n := 2) rfl cs
@[go_sem high] theorem fv_32_4 (cs : List AV) : aField Tryd.prog 32 (.agg cs) 4 = aPart Tryd.prog 29 cs 4 := field_agg rfl cs
@[go_sem high] theorem fa_32_5 (id g i c : Nat) : aFieldAddr Tryd.prog 32 (.ptr id g i c) 5 = some (True, .ptr id g i (c + 7)) := fieldAddr_ptr (n := 0) rfl id g i c
@[go_sem high] theorem ff_32_5 (cs : List AV) : aFieldAddr Tryd.prog 32 (.fptr cs) 5 = some (7 ≤ cs.length, .fptr (cs.drop 7)) := fieldAddr_fptr (n := 0) rfl cs
@[go_sem high] theorem fv_32_5 (cs : List AV) : aField Tryd.prog 32 (.agg cs) 5 = aPart Tryd.prog 30 cs 7 := field_agg rfl cs
@[go_sem high] theorem fa_32_6 (id g i c : Nat) : aFieldAddr Tryd.prog 32 (.ptr id g i c) 6 = some (True, .ptr id g i (c + 8)) := fieldAddr_ptr (n := 0) rfl id g i c
@[go_sem high] theorem ff_32_6 (cs : List AV) : aFieldAddr Tryd.prog 32 (.fptr cs) 6 = some (8 ≤ cs.length, .fptr (cs.drop 8)) := fieldAddr_fptr (n := 0) rfl cs
@[go_sem high] theorem fv_32_6 (cs : List AV) : aField Tryd.prog 32 (.agg cs) 6 = aPart Tryd.prog 30 cs 8 := field_agg rfl cs
@[go_sem high] theorem fa_32_7 (id g i c : Nat) : aFieldAddr Tryd.prog 32 (.ptr id g i c) 7 = some (True, .ptr id g i (c + 9)) := fieldAddr_ptr (n := 0) rfl id g i c
@[go_sem high] theorem ff_32_7 (cs : List AV) : aFieldAddr Tryd.prog 32 (.fptr cs) 7 = some (9 ≤ cs.length, .fptr (cs.drop 9)) := fieldAddr_fptr (n := 0) rfl cs
@[go_sem high] theorem fv_32_7 (cs : List AV) : aField Tryd.prog 32 (.agg cs) 7 = aPart Tryd.prog 31 cs 9 := field_agg rfl cs
@[go_sem high] theorem fa_32_8 (id g i c : Nat) : aFieldAddr Tryd.prog 32 (.ptr id g i c) 8 = some (True, .ptr id g i (c + 10)) := fieldAddr_ptr (n := 0) rfl id g i c
@[go_sem high] theorem ff_32_8 (cs : List AV) : aFieldAddr Tryd.prog 32 (.fptr cs) 8 = some (10 ≤ cs.length, .fptr (cs.drop 10)) := fieldAddr_fptr (n := 0) rfl cs
@[go_sem high] theorem fv_32_8 (cs : List AV) : aField Tryd.prog 32 (.agg cs) 8 = aPart Tryd.prog 30 cs 10 := field_agg rfl cs
@[go_sem high] theorem fa_32_9 (id g i c : Nat) : aFieldAddr Tryd.prog 32 (.ptr id g i c) 9 = some (True, .ptr id g i (c + 11)) := fieldAddr_ptr (n := 0) rfl id g i c
@[go_sem high] theorem ff_32_9 (cs : List AV) : aFieldAddr Tryd.prog 32 (.fptr cs) 9 = some (11 ≤ cs.length, .fptr (cs.drop 11)) := fieldAddr_fptr (n := 0) rfl cs
@[go_sem high] theorem fv_32_9 (cs : List AV) : aField Tryd.prog 32 (.agg cs) 9 = aPart Tryd.prog 3 cs 11 := field_agg rfl cs
@[go_sem] theorem fld_33_0 : fldOf Tryd.prog 33 0 = some (0, 1) := rfl
@[go_sem high] theorem fa_33_0 (id g i c : Nat) : aFieldAddr Tryd.prog 33 (.ptr id g i c) 0 = some (True, .ptr id g i (c + 0)) := fieldAddr_ptr (n := 0) rfl id g i c
@[go_sem high] theorem ff_33_0 (cs : List AV) : aFieldAddr Tryd.prog 33 (.fptr cs) 0 = some (0 ≤ cs.length, .fptr (cs.drop 0)) := fieldAddr_fptr (n := 0) rfl cs
@[go_sem high] theorem fv_33_0 (cs : List AV) : aField Tryd.prog 33 (.agg cs) 0 = aPart Tryd.prog 3 cs 0 := field_agg rfl cs
@[go_sem] theorem fld_33_1 : fldOf Tryd.prog 33 1 = some (1, 1) := rfl
@[go_sem high] theorem fa_33_1 (id g i c : Nat) : aFieldAddr Tryd.prog 33 (.ptr id g i c) 1 = some (True, .ptr id g i (c + 1)) := fieldAddr_ptr (n := 0) rfl id g i c
@[go_sem high] theorem ff_33_1 (cs : List AV) : aFieldAddr Tryd.prog 33 (.fptr cs) 1 = some (1 ≤ cs.length, .fptr (cs.drop 1)) := fieldAddr_fptr (n := 0) rfl cs
@[go_sem high] theorem fv_33_1 (cs : List AV) : aField Tryd.prog 33 (.agg cs) 1 = aPart Tryd.prog 3 cs 1 := field_agg rfl cs
@[go_sem] theorem fld_33_2 : fldOf Tryd.prog 33 2 = some (2, 1) := rfl
@[go_sem high] theorem fa_33_2 (id g i c : Nat) : aFieldAddr Tryd.prog 33 (.ptr id g i c) 2 = some (True, .ptr id g i (c + 2)) := fieldAddr_ptr (n := 0) rfl id g i c
@[go_sem high] theorem ff_33_2 (cs : List AV) : aFieldAddr Tryd.prog 33 (.fptr cs) 2 = some (2 ≤ cs.length, .fptr (cs.drop 2)) := fieldAddr_fptr (n := 0) rfl cs
@[go_sem high] theorem fv_33_2 (cs : List AV) : aField Tryd.prog 33 (.agg cs) 2 = aPart Tryd.prog 3 cs 2 := field_agg rfl cs
@[go_sem] theorem fld_33_3 : fldOf Tryd.prog 33 3 = some (3, 1) := rfl
@[go_sem high] theorem fa_33_3 (id g i c : Nat) : aFieldAddr Tryd.prog 33 (.ptr id g i c) 3 = some (True, .ptr id g i (c + 3)) := fieldAddr_ptr (n := 0) rfl id g i c
@[go_sem high] theorem ff_33_3 (cs : List AV) : aFieldAddr Tryd.prog 33 (.fptr cs) 3 = some (3 ≤ cs.length, .fptr (cs.drop 3)) := fieldAddr_fptr (n := 0) rfl cs
@[go_sem high] theorem fv_33_3 (cs : List AV) : aField Tryd.prog 33 (.agg cs) 3 = aPart Tryd.prog 4 cs 3 := field_agg rfl cs
@[go_sem] theorem fld_33_4 : fldOf Tryd.prog 33 4 = some (4, 3) := rfl
@[go_sem high] theorem fa_33_4 (id g i c : Nat) : aFieldAddr Tryd.prog 33 (.ptr id g i c) 4 = some (True, .ptr id g i (c + 4)) := fieldAddr_ptr (n := 2) rfl id g i c
@[go_sem high] theorem ff_33_4 (cs : List AV) : aFieldAddr Tryd.prog 33 (.fptr cs) 4 = some (4 ≤ cs.length, .fptr (cs.drop 4)) := fieldAddr_fptr (n := 2) rfl cs
@[go_sem high] theorem fv_33_4 (cs : List AV) : aField Tryd.prog 33 (.agg cs) 4 = aPart Tryd.prog 29 cs 4 := field_agg rfl cs
@[go_sem] theorem fld_33_5 : fldOf Tryd.prog 33 5 = some (7, 1) := rfl
@[go_sem high] theorem fa_33_5 (id g i c : Nat) : aFieldAddr Tryd.prog 33 (.ptr id g i c) 5 = some (True, .ptr id g i (c + 7)) := fieldAddr_ptr (n := 0) rfl id g i c
@[go_sem high] theorem ff_33_5 (cs : List AV) : aFieldAddr Tryd.prog 33 (.fptr cs) 5 = some (7 ≤ cs.length, .fptr (cs.drop 7)) := fieldAddr_fptr (n := 0) rfl cs
@[go_sem high] theorem fv_33_5 (cs : List AV) : aField Tryd.prog 33 (.agg cs) 5 = aPart Tryd.prog 30 cs 7 := field_agg rfl cs
@[go_sem] theorem fld_33_6 : fldOf Tryd.prog 33 6 = some (8, 1) := rfl
@[go_sem high] theorem fa_33_6 (id g i c : Nat) : aFieldAddr Tryd.prog 33 (.ptr id g i c) 6 = some (True, .ptr id g i (c + 8)) := fieldAddr_ptr (n := 0) rfl id g i c
@[go_sem high] theorem ff_33_6 (cs : List AV) : aFieldAddr Tryd.prog 33 (.fptr cs) 6 = some (8 ≤ cs.length, .fptr (cs.drop 8)) := fieldAddr_fptr (n := 0) rfl cs
@[go_sem high] theorem fv_33_6 (cs : List AV) : aField Tryd.prog 33 (.agg cs) 6 = aPart Tryd.prog 30 cs 8 := field_agg rfl cs
@[go_sem] theorem fld_33_7 : fldOf Tryd.prog 33 7 = some (9, 1) := rfl
@[go_sem high] theorem fa_33_7 (id g i c : Nat) : aFieldAddr Tryd.prog 33 (.ptr id g i c) 7 = some (True, .ptr id g i (c + 9)) := fieldAddr_ptr (n := 0) rfl id g i c
@[go_sem high] theorem ff_33_7 (cs : List AV) : aFieldAddr Tryd.prog 33 (.fptr cs) 7 = some (9 ≤ cs.length, .fptr (cs.drop 9)) := fieldAddr_fptr (n := 0) rfl cs
@[go_sem high] theorem fv_33_7 (cs : List AV) : aField Tryd.prog 33 (.agg cs) 7 = aPart Tryd.prog 31 cs 9 := field_agg rfl cs
@[go_sem] theorem fld_33_8 : fldOf Tryd.prog 33 8 = some (10, 1) := rfl
@[go_sem high] theorem fa_33_8 (id g i c : Nat) : aFieldAddr Tryd.prog 33 (.ptr id g i c) 8 = some (True, .ptr id g i (c + 10)) := fieldAddr_ptr (n := 0) rfl id g i c
@[go_sem high] theorem ff_33_8 (cs : List AV) : aFieldAddr Tryd.prog 33 (.fptr cs) 8 = some (10 ≤ cs.length, .fptr (cs.drop 10)) := fieldAddr_fptr (n := 0) rfl cs
@[go_sem high] theorem fv_33_8 (cs : List AV) : aField Tryd.prog 33 (.agg cs) 8 = aPart Tryd.prog 30 cs 10 := field_agg rfl cs
@[go_sem] theorem fld_33_9 : fldOf Tryd.prog 33 9 = some (11, 1) := rfl
@[go_sem high] theorem fa_33_9 (id g i c : Nat) : aFieldAddr Tryd.prog 33 (.ptr id g i c) 9 = some (True, .ptr id g i (c + 11)) := fieldAddr_ptr (n := 0) rfl id g i c
@[go_sem high] theorem ff_33_9 (cs : List AV) : aFieldAddr Tryd.prog 33 (.fptr cs) 9 = some (11 ≤ cs.length, .fptr (cs.drop 11)) := fieldAddr_fptr (n := 0) rfl cs
@[go_sem high] theorem fv_33_9 (cs : List AV) : aField Tryd.prog 33 (.agg cs) 9 = aPart Tryd.prog 3 cs 11 := field_agg rfl cs
@[go_sem high] theorem fa_69_0 (id g i c : Nat) : aFieldAddr Tryd.prog 69 (.ptr id g i c) 0 = some (True, .ptr id g i (c + 0)) := fieldAddr_ptr (n := 11) rfl id g i c
@[go_sem high] theorem ff_69_0 (cs : List AV) : aFieldAddr Tryd.prog 69 (.fptr cs) 0 = some (0 ≤ cs.length, .fptr (cs.drop 0)) := fieldAddr_fptr (n := 11) rfl cs
@[go_sem high] theorem fv_69_0 (cs : List AV) : aField Tryd.prog 69 (.agg cs) 0 = aPart Tryd.prog 33 cs 0 := field_agg rfl cs
@[go_sem high] theorem fa_69_1 (id g i c : Nat) : aFieldAddr Tryd.prog 69 (.ptr id g i c) 1 = some (True, .ptr id g i (c + 12)) := fieldAddr_ptr (n := 0) rfl id g i c
@[go_sem high] theorem ff_69_1 (cs : List AV) : aFieldAddr Tryd.prog 69 (.fptr cs) 1 = some (12 ≤ cs.length, .fptr (cs.drop 12)) := fieldAddr_fptr (n := 0) rfl cs
@[go_sem high] theorem fv_69_1 (cs : List AV) : aField Tryd.prog 69 (.agg cs) 1 = aPart Tryd.prog 2 cs 12 := field_agg rfl cs
@[go_sem high] theorem fa_69_2 (id g i c : Nat) : aFieldAddr Tryd.prog 69 (.ptr id g i c) 2 = some (True, .ptr id g i (c + 13)) := fieldAddr_ptr (n := 0) rfl id g i c
@[go_sem high] theorem ff_69_2 (cs : List AV) : aFieldAddr Tryd.prog 69 (.fptr cs) 2 = some (13 ≤ cs.length, .fptr (cs.drop 13)) := fieldAddr_fptr (n := 0) rfl cs
@[go_sem high] theorem fv_69_2 (cs : List AV) : aField Tryd.prog 69 (.agg cs) 2 = aPart Tryd.prog 2 cs 13 := field_agg rfl cs
@[go_sem high] theorem fa_69_3 (id g i c : Nat) : aFieldAddr Tryd.prog 69 (.ptr id g i c) 3 = some (True, .ptr id g i (c + 14)) := fieldAddr_ptr (n := 0) rfl id g i c
@[go_sem high] theorem ff_69_3 (cs : List AV) : aFieldAddr Tryd.prog 69 (.fptr cs) 3 = some (14 ≤ cs.length, .fptr (cs.drop 14)) := fieldAddr_fptr (n := 0) rfl cs
@[go_sem high] theorem fv_69_3 (cs : List AV) : aField Tryd.prog 69 (.agg cs) 3 = aPart Tryd.prog 2 cs 14 := field_agg rfl cs
@[go_sem high] theorem fa_69_4 (id g i c : Nat) : aFieldAddr Tryd.prog 69 (.ptr id g i c) 4 = some (True, .ptr id g i (c + 15)) := fieldAddr_ptr (n := 0) rfl id g i c
@[go_sem high] theorem ff_69_4 (cs : List AV) : aFieldAddr Tryd.prog 69 (.fptr cs) 4 = some (15 ≤ cs.length, .fptr (cs.drop 15)) := fieldAddr_fptr (n := 0) rfl cs
@[go_sem high] theorem fv_69_4 (cs : List AV) : aField Tryd.prog 69 (.agg cs) 4 = aPart Tryd.prog 3 cs 15 := field_agg rfl cs
@[go_sem high] theorem fa_69_5 (id g i c : Nat) : aFieldAddr Tryd.prog 69 (.ptr id g i c) 5 = some (True, .ptr id g i (c + 16)) := fieldAddr_ptr (n := 0) rfl id g i c
@[go_sem high] theorem ff_69_5 (cs : List AV) : aFieldAddr Tryd.prog 69 (.fptr cs) 5 = some (16 ≤ cs.length, .fptr (cs.drop 16)) := fieldAddr_fptr (n := 0) rfl cs
@[go_sem high] theorem fv_69_5 (cs : List AV) : aField Tryd.prog 69 (.agg cs) 5 = aPart Tryd.prog 3 cs 16 := field_agg rfl cs
@[go_sem high] theorem fa_69_6 (id g i c : Nat) : aFieldAddr Tryd.prog 69 (.ptr id g i c) 6 = some (True, .ptr id g i (c + 17)) := fieldAddr_ptr (n := 0) rfl id g i c
@[go_sem high] theorem ff_69_6 (cs : List AV) : aFieldAddr Tryd.prog 69 (.fptr cs) 6 = some (17 ≤ cs.length, .fptr (cs.drop 17)) := fieldAddr_fptr (n := 0) rfl cs
@[go_sem high] theorem fv_69_6 (cs : List AV) : aField Tryd.prog 69 (.agg cs) 6 = aPart Tryd.prog 3 cs 17 := field_agg rfl cs
@[go_sem] theorem fld_70_0 : fldOf Tryd.prog 70 0 = some (0, 12) := rfl
@[go_sem high] theorem fa_70_0 (id g i c : Nat) : aFieldAddr Tryd.prog 70 (.ptr id g i c) 0 = some (True, .ptr id g i (c + 0)) := fieldAddr_ptr (n := 11) rfl id g i c
@[go_sem high] theorem ff_70_0 (cs : List AV) : aFieldAddr Tryd.prog 70 (.fptr cs) 0 = some (0 ≤ cs.length, .fptr (cs.drop 0)) := fieldAddr_fptr (n := 11) rfl cs
@[go_sem high] theorem fv_70_0 (cs : List AV) : aField Tryd.prog 70 (.agg cs) 0 = aPart Tryd.prog 33 cs 0 := field_agg rfl cs
@[go_sem] theorem fld_70_1 : fldOf Tryd.prog 70 1 = some (12, 1) := rfl
@[go_sem high] theorem fa_70_1 (id g i c : Nat) : aFieldAddr Tryd.prog 70 (.ptr id g i c) 1 = some (True, .ptr id g i (c + 12)) := fieldAddr_ptr (n := 0) rfl id g i c
@[go_sem high] theorem ff_70_1 (cs : List AV) : aFieldAddr Tryd.prog 70 (.fptr cs) 1 = some (12 ≤ cs.length, .fptr (cs.drop 12)) := fieldAddr_fptr (n := 0) rfl cs
@[go_sem high] theorem fv_70_1 (cs : List AV) : aField Tryd.prog 70 (.agg cs) 1 = aPart Tryd.prog 2 cs 12 := field_agg rfl cs
@[go_sem] theorem fld_70_2 : fldOf Tryd.prog 70 2 = some (13, 1) := rfl
@[go_sem high] theorem fa_70_2 (id g i c : Nat) : aFieldAddr Tryd.prog 70 (.ptr id g i c) 2 = some (True, .ptr id g i (c + 13)) := fieldAddr_ptr (n := 0) rfl id g i c
@[go_sem high] theorem ff_70_2 (cs : List AV) : aFieldAddr Tryd.prog 70 (.fptr cs) 2 = some (13 ≤ cs.length, .fptr (cs.drop 13)) := fieldAddr_fptr (n := 0) rfl cs
@[go_sem high] theorem fv_70_2 (cs : List AV) : aField Tryd.prog 70 (.agg cs) 2 = aPart Tryd.prog 2 cs 13 := field_agg rfl cs
@[go_sem] theorem fld_70_3 : fldOf Tryd.prog 70 3 = some (14, 1) := rfl
@[go_sem high] theorem fa_70_3 (id g i c : Nat) : aFieldAddr Tryd.prog 70 (.ptr id g i c) 3 = some (True, .ptr id g i (c + 14)) := fieldAddr_ptr (n := 0) rfl id g i c
@[go_sem high] theorem ff_70_3 (cs : List AV) : aFieldAddr Tryd.prog 70 (.fptr cs) 3 = some (14 ≤ cs.length, .fptr (cs.drop 14)) := fieldAddr_fptr (n := 0) rfl cs
@[go_sem high] theorem fv_70_3 (cs : List AV) : aField Tryd.prog 70 (.agg cs) 3 = aPart Tryd.prog 2 cs 14 := field_agg rfl cs
@[go_sem] theorem fld_70_4 : fldOf Tryd.prog 70 4 = some (15, 1) := rfl
@[go_sem high] theorem fa_70_4 (id g i c : Nat) : aFieldAddr Tryd.prog 70 (.ptr id g i c) 4 = some (True, .ptr id g i (c + 15)) := fieldAddr_ptr (n := 0) rfl id g i c
@[go_sem high] theorem ff_70_4 (cs : List AV) : aFieldAddr Tryd.prog 70 (.fptr cs) 4 = some (15 ≤ cs.length, .fptr (cs.drop 15)) := fieldAddr_fptr (n := 0) rfl cs
@[go_sem high] theorem fv_70_4 (cs : List AV) : aField Tryd.prog 70 (.agg cs) 4 = aPart Tryd.prog 3 cs 15 := field_agg rfl cs
@[go_sem] theorem fld_70_5 : fldOf Tryd.prog 70 5 = some (16, 1) := rfl
@[go_sem high] theorem fa_70_5 (id g i c : Nat) : aFieldAddr Tryd.prog 70 (.ptr id g i c) 5 = some (True, .ptr id g i (c + 16)) := fieldAddr_ptr (n := 0) rfl id g i c
@[go_sem high] theorem ff_70_5 (cs : List AV) : aFieldAddr Tryd.prog 70 (.fptr cs) 5 = some (16 ≤ cs.length, .fptr (cs.drop 16)) := fieldAddr_fptr (n := 0) rfl cs
@[go_sem high] theorem fv_70_5 (cs : List AV) : aField Tryd.prog 70 (.agg cs) 5 = aPart Tryd.prog 3 cs 16 := field_agg rfl cs
@[go_sem] theorem fld_70_6 : fldOf Tryd.prog 70 6 = some (17, 1) := rfl
@[go_sem high] theorem fa_70_6 (id g i c : Nat) : aFieldAddr Tryd.prog 70 (.ptr id g i c) 6 = some (True, .ptr id g i (c + 17)) := fieldAddr_ptr (n := 0) rfl id g i c
@[go_sem high] theorem ff_70_6 (cs : List AV) : aFieldAddr Tryd.prog 70 (.fptr cs) 6 = some (17 ≤ cs.length, .fptr (cs.drop 17)) := fieldAddr_fptr (n := 0) rfl cs
@[go_sem high] theorem fv_70_6 (cs : List AV) : aField Tryd.prog 70 (.agg cs) 6 = aPart Tryd.prog 3 cs 17 := field_agg rfl cs
@[go_sem high] theorem fa_76_0 (id g i c : Nat) : aFieldAddr Tryd.prog 76 (.ptr id g i c) 0 = some (True, .ptr id g i (c + 0)) := fieldAddr_ptr (n := 0) rfl id g i c
@[go_sem high] theorem ff_76_0 (cs : List AV) : aFieldAddr Tryd.prog 76 (.fptr cs) 0 = some (0 ≤ cs.length, .fptr (cs.drop 0)) := fieldAddr_fptr (n := 0) rfl cs
@[go_sem high] theorem fv_76_0 (cs : List AV) : aField Tryd.prog 76 (.agg cs) 0 = aPart Tryd.prog 2 cs 0 := field_agg rfl cs
@[go_sem high] theorem fa_76_1 (id g i c : Nat) : aFieldAddr Tryd.prog 76 (.ptr id g i c) 1 = some (True, .ptr id g i (c + 1)) := fieldAddr_ptr (n := 0) rfl id g i c
@[go_sem high] theorem ff_76_1 (cs : List AV) : aFieldAddr Tryd.prog 76 (.fptr cs) 1 = some (1 ≤ cs.length, .fptr (cs.drop 1)) := fieldAddr_fptr (n := 0) rfl cs
@[go_sem high] theorem fv_76_1 (cs : List AV) : aField Tryd.prog 76 (.agg cs) 1 = aPart Tryd.prog 3 cs 1 := field_agg rfl cs
@[go_sem] theorem fld_77_0 : fldOf Tryd.prog 77 0 = some (0, 1) := rfl
@[go_sem high] theorem fa_77_0 (id g i c : Nat) : aFieldAddr Tryd.prog 77 (.ptr id g i c) 0 = some (True, .ptr id g i (c + 0)) := fieldAddr_ptr (n := 0) rfl id g i c
@[go_sem high] theorem ff_77_0 (cs : List AV) : aFieldAddr Tryd.prog 77 (.fptr cs) 0 = some (0 ≤ cs.length, .fptr (cs.drop 0)) := fieldAddr_fptr (n := 0) rfl cs
@[go_sem high] theorem fv_77_0 (cs : List AV) : aField Tryd.prog 77 (.agg cs) 0 = aPart Tryd.prog 2 cs 0 := field_agg rfl cs
@[go_sem] theorem fld_77_1 : fldOf Tryd.prog 77 1 = some (1, 1) := rfl
@[go_sem high] theorem fa_77_1 (id g i c : Nat) : aFieldAddr Tryd.prog 77 (.ptr id g i c) 1 = some (True, .ptr id g i (c + 1)) := fieldAddr_ptr (n := 0) rfl id g i c
@[go_sem high] theorem ff_77_1 (cs : List AV) : aFieldAddr Tryd.prog 77 (.fptr cs) 1 = some (1 ≤ cs.length, .fptr (cs.drop 1)) := fieldAddr_fptr (n := 0) rfl cs
@[go_sem high] theorem fv_77_1 (cs : List AV) : aField Tryd.prog 77 (.agg cs) 1 = aPart Tryd.prog 3 cs 1 := field_agg rfl cs
@[go_sem high] theorem fa_106_0 (id g i c : Nat) : aFieldAddr Tryd.prog 106 (.ptr id g i c) 0 = some (True, .ptr id g i (c + 0)) := fieldAddr_ptr (n := 0) rfl id g i c
@[go_sem high] theorem ff_106_0 (cs : List AV) : aFieldAddr Tryd.prog 106 (.fptr cs) 0 = some (0 ≤ cs.length, .fptr (cs.drop 0)) := fieldAddr_fptr (n := 0) rfl cs
@[go_sem high] theorem fv_106_0 (cs : List AV) : aField Tryd.prog 106 (.agg cs) 0 = aPart Tryd.prog 105 cs 0 := field_agg rfl cs
@[go_sem high] theorem fa_106_1 (id g i c : Nat) : aFieldAddr Tryd.prog 106 (.ptr id g i c) 1 = some (True, .ptr id g i (c + 1)) := fieldAddr_ptr (n := 0) rfl id g i c
@[go_sem high] theorem ff_106_1 (cs : List AV) : aFieldAddr Tryd.prog 106 (.fptr cs) 1 = some (1 ≤ cs.length, .fptr (cs.drop 1)) := fieldAddr_fptr (n := 0) rfl cs
@[go_sem high] theorem fv_106_1 (cs : List AV) : aField Tryd.prog 106 (.agg cs) 1 = aPart Tryd.prog 93 cs 1 := field_agg rfl cs
@[go_sem] theorem fld_107_0 : fldOf Tryd.prog 107 0 = some (0, 1) := rfl
@[go_sem high] theorem fa_107_0 (id g i c : Nat) : aFieldAddr Tryd.prog 107 (.ptr id g i c) 0 = some (True, .ptr id g i (c + 0)) := fieldAddr_ptr (n := 0) rfl id g i c
@[go_sem high] theorem ff_107_0 (cs : List AV) : aFieldAddr Tryd.prog 107 (.fptr cs) 0 = some (0 ≤ cs.length, .fptr (cs.drop 0)) := fieldAddr_fptr (n := 0) rfl cs
@[go_sem high] theorem fv_107_0 (cs : List AV) : aField Tryd.prog 107 (.agg cs) 0 = aPart Tryd.prog 105 cs 0 := field_agg rfl cs
@[go_sem] theorem fld_107_1 : fldOf Tryd.prog 107 1 = some (1, 1) := rfl
@[go_sem high] theorem fa_107_1 (id g i c : Nat) : aFieldAddr Tryd.prog 107 (.ptr id g i c) 1 = some (True, .ptr id g i (c + 1)) := fieldAddr_ptr (n := 0) rfl id g i c
@[go_sem high] theorem ff_107_1 (cs : List AV) : aFieldAddr Tryd.prog 107 (.fptr cs) 1 = some (1 ≤ cs.length, .fptr (cs.drop 1)) := fieldAddr_fptr (n := 0) rfl cs
@[go_sem high] theorem fv_107_1 (cs : List AV) : aField Tryd.prog 107 (.agg cs) 1 = aPart Tryd.prog 93 cs 1 := field_agg rfl cs
@[go_sem high] theorem fa_139_0 (id g i c : Nat) : aFieldAddr Tryd.prog 139 (.ptr id g i c) 0 = some (True, .ptr id g i (c + 0)) := fieldAddr_ptr (n := 0) rfl id g i c
@[go_sem high] theorem ff_139_0 (cs : List AV) : aFieldAddr Tryd.prog 139 (.fptr cs) 0 = some (0 ≤ cs.length, .fptr (cs.drop 0)) := fieldAddr_fptr (n := 0) rfl cs
@[go_sem high] theorem fv_139_0 (cs : List AV) : aField Tryd.prog 139 (.agg cs) 0 = aPart Tryd.prog 17 cs 0 := field_agg rfl cs
@[go_sem high] theorem fa_139_1 (id g i c : Nat) : aFieldAddr Tryd.prog 139 (.ptr id g i c) 1 = some (True, .ptr id g i (c + 1)) := fieldAddr_ptr (n := 0) rfl id g i c
@[go_sem high] theorem ff_139_1 (cs : List AV) : aFieldAddr Tryd.prog 139 (.fptr cs) 1 = some (1 ≤ cs.length, .fptr (cs.drop 1)) := fieldAddr_fptr (n := 0) rfl cs
@[go_sem high] theorem fv_139_1 (cs : List AV) : aField Tryd.prog 139 (.agg cs) 1 = aPart Tryd.prog 17 cs 1 := field_agg rfl cs
@[go_sem high] theorem fa_139_2 (id g i c : Nat) : aFieldAddr Tryd.prog 139 (.ptr id g i c) 2 = some (True, .ptr id g i (c + 2)) := fieldAddr_ptr (n := 0) rfl id g i c
@[go_sem high] theorem ff_139_2 (cs : List AV) : aFieldAddr Tryd.prog 139 (.fptr cs) 2 = some (2 ≤ cs.length, .fptr (cs.drop 2)) := fieldAddr_fptr (n := 0) rfl cs
@[go_sem high] theorem fv_139_2 (cs : List AV) : aField Tryd.prog 139 (.agg cs) 2 = aPart Tryd.prog 17 cs 2 := field_agg rfl cs
@[go_sem high] theorem fa_139_3 (id g i c : Nat) : aFieldAddr Tryd.prog 139 (.ptr id g i c) 3 = some (True, .ptr id g i (c + 3)) := fieldAddr_ptr (n := 0) rfl id g i c
@[go_sem high] theorem ff_139_3 (cs : List AV) : aFieldAddr Tryd.prog 139 (.fptr cs) 3 = some (3 ≤ cs.length, .fptr (cs.drop 3)) := fieldAddr_fptr (n := 0) rfl cs
@[go_sem high] theorem fv_139_3 (cs : List AV) : aField Tryd.prog 139 (.agg cs) 3 = aPart Tryd.prog 9 cs 3 := field_agg rfl cs
@[go_sem high] theorem fa_140_0 (id g i c : Nat) : aFieldAddr Tryd.prog 140 (.ptr id g i c) 0 = some (True, .ptr id g i (c + 0)) := fieldAddr_ptr (n := 0) rfl id g i c
@[go_sem high] theorem ff_140_0 (cs : List AV) : aFieldAddr Tryd.prog 140 (.fptr cs) 0 = some (0 ≤ cs.length, .fptr (cs.drop 0)) := fieldAddr_fptr (n := 0) rfl cs
@[go_sem high] theorem fv_140_0 (cs : List AV) : aField Tryd.prog 140 (.agg cs) 0 = aPart Tryd.prog 17 cs 0 := field_agg rfl cs
@[go_sem high] theorem fa_140_1 (id g i c : Nat) : aFieldAddr Tryd.prog 140 (.ptr id g i c) 1 = some (True, .ptr id g i (c + 1)) := fieldAddr_ptr (n := 0) rfl id g i c
@[go_sem high] theorem ff_140_1 (cs : List AV) : aFieldAddr Tryd.prog 140 (.fptr cs) 1 = some (1 ≤ cs.length, .fptr (cs.drop 1)) := fieldAddr_fptr (n := 0) rfl cs
@[go_sem high] theorem fv_140_1 (cs : List AV) : aField Tryd.prog 140 (.agg cs) 1 = aPart Tryd.prog 17 cs 1 := field_agg rfl cs
@[go_sem high] theorem fa_140_2 (id g i c : Nat) : aFieldAddr Tryd.prog 140 (.ptr id g i c) 2 = some (True, .ptr id g i (c + 2)) := fieldAddr_ptr (n := 0) rfl id g i c
@[go_sem high] theorem ff_140_2 (cs : List AV) : aFieldAddr Tryd.prog 140 (.fptr cs) 2 = some (2 ≤ cs.length, .fptr (cs.drop 2)) := fieldAddr_fptr (n := 0) rfl cs
@[go_sem high] theorem fv_140_2 (cs : List AV) : aField Tryd.prog 140 (.agg cs) 2 = aPart Tryd.prog 17 cs 2 := field_agg rfl cs
@[go_sem high] theorem fa_140_3 (id g i c : Nat) : aFieldAddr Tryd.prog 140 (.ptr id g i c) 3 = some (True, .ptr id g i (c + 3)) := fieldAddr_ptr (n := 0) rfl id g i c
@[go_sem high] theorem ff_140_3 (cs : List AV) : aFieldAddr Tryd.prog 140 (.fptr cs) 3 = some (3 ≤ cs.length, .fptr (cs.drop 3)) := fieldAddr_fptr (n := 0) rfl cs
@[go_sem high] theorem fv_140_3 (cs : List AV) : aField Tryd.prog 140 (.agg cs) 3 = aPart Tryd.prog 9 cs 3 := field_agg rfl cs
@[go_sem high] theorem fv_142_0 (cs : List AV) : aField Tryd.prog 142 (.agg cs) 0 = aPart Tryd.prog 141 cs 0 := field_agg rfl cs
@[go_sem high] theorem fv_143_0 (cs : List AV) : aField Tryd.prog 143 (.agg cs) 0 = aPart Tryd.prog 141 cs 0 := field_agg rfl cs
@[go_sem high] theorem fa_149_0 (id g i c : Nat) : aFieldAddr Tryd.prog 149 (.ptr id g i c) 0 = some (True, .ptr id g i (c + 0)) := fieldAddr_ptr (n := 0) rfl id g i c
@[go_sem high] theorem ff_149_0 (cs : List AV) : aFieldAddr Tryd.prog 149 (.fptr cs) 0 = some (0 ≤ cs.length, .fptr (cs.drop 0)) := fieldAddr_fptr (n := 0) rfl cs
@[go_sem high] theorem fv_149_0 (cs : List AV) : aField Tryd.prog 149 (.agg cs) 0 = aPart Tryd.prog 12 cs 0 := field_agg rfl cs
@[go_sem high] theorem fa_149_1 (id g i c : Nat) : aFieldAddr Tryd.prog 149 (.ptr id g i c) 1 = some (True, .ptr id g i (c + 1)) := fieldAddr_ptr (n := 0) rfl id g i c
@[go_sem high] theorem ff_149_1 (cs : List AV) : aFieldAddr Tryd.prog 149 (.fptr cs) 1 = some (1 ≤ cs.length, .fptr (cs.drop 1)) := fieldAddr_fptr (n := 0) rfl cs
@[go_sem high] theorem fv_149_1 (cs : List AV) : aField Tryd.prog 149 (.agg cs) 1 = aPart Tryd.prog 12 cs 1 := field_agg rfl cs
@[go_sem high] theorem fa_149_2 (id g i c : Nat) : aFieldAddr Tryd.prog 149 (.ptr id g i c) 2 = some (True, .ptr id g i (c + 2)) := fieldAddr_ptr (n := 0) rfl id g i c
@[go_sem high] theorem ff_149_2 (cs : List AV) : aFieldAddr Tryd.prog 149 (.fptr cs) 2 = some (2 ≤ cs.length, .fptr (cs.drop 2)) := fieldAddr_fptr (n := 0) rfl cs
@[go_sem high] theorem fv_149_2 (cs : List AV) : aField Tryd.prog 149 (.agg cs) 2 = aPart Tryd.prog 122 cs 2 := field_agg rfl cs
@[go_sem high] theorem fa_149_3 (id g i c : Nat) : aFieldAddr Tryd.prog 149 (.ptr id g i c) 3 = some (True, .ptr id g i (c + 3)) := fieldAddr_ptr (n := 0) rfl id g i c
@[go_sem high] theorem ff_149_3 (cs : List AV) : aFieldAddr Tryd.prog 149 (.fptr cs) 3 = some (3 ≤ cs.length, .fptr (cs.drop 3)) := fieldAddr_fptr (n := 0) rfl cs
@[go_sem high] theorem fv_149_3 (cs : List AV) : aField Tryd.prog 149 (.agg cs) 3 = aPart Tryd.prog 144 cs 3 := field_agg rfl cs
@[go_sem high] theorem fa_149_4 (id g i c : Nat) : aFieldAddr Tryd.prog 149 (.ptr id g i c) 4 = some (True, .ptr id g i (c + 4)) := fieldAddr_ptr (n := 0) rfl id g i c
@[go_sem high] theorem ff_149_4 (cs : List AV) : aFieldAddr Tryd.prog 149 (.fptr cs) 4 = some (4 ≤ cs.length, .fptr (cs.drop 4)) := fieldAddr_fptr (n := 0) rfl cs
@[go_sem high] theorem fv_149_4 (cs : List AV) : aField Tryd.prog 149 (.agg cs) 4 = aPart Tryd.prog 5 cs 4 := field_agg rfl cs
@[go_sem high] theorem fa_149_5 (id g i c : Nat) : aFieldAddr Tryd.prog 149 (.ptr id g i c) 5 = some (True, .ptr id g i (c + 5)) := fieldAddr_ptr (n := 0) rfl id g i c
@[go_sem high] theorem ff_149_5 (cs : List AV) : aFieldAddr Tryd.prog 149 (.fptr cs) 5 = some (5 ≤ cs.length, .fptr (cs.drop 5)) := fieldAddr_fptr (n := 0) rfl cs
@[go_sem high] theorem fv_149_5 (cs : List AV) : aField Tryd.prog 149 (.agg cs) 5 = aPart Tryd.prog 5 cs 5 := field_agg rfl cs
@[go_sem high] theorem fa_149_6 (id g i c : Nat) : aFieldAddr Tryd.prog 149 (.ptr id g i c) 6 = some (True, .ptr id g i (c + 6)) := fieldAddr_ptr (n := 0) rfl id g i c
@[go_sem high] theorem ff_149_6 (cs : List AV) : aFieldAddr Tryd.prog 149 (.fptr cs) 6 = some (6 ≤ cs.length, .fptr (cs.drop 6)) := fieldAddr_fptr (n := 0) rfl cs
@[go_sem high] theorem fv_149_6 (cs : List AV) : aField Tryd.prog 149 (.agg cs) 6 = aPart Tryd.prog 145 cs 6 := field_agg rfl cs
@[go_sem high] theorem fa_149_7 (id g i c : Nat) : aFieldAddr Tryd.prog 149 (.ptr id g i c) 7 = some (True, .ptr id g i (c + 7)) := fieldAddr_ptr (n := 0) rfl id g i c
@[go_sem high] theorem ff_149_7 (cs : List AV) : aFieldAddr Tryd.prog 149 (.fptr cs) 7 = some (7 ≤ cs.length, .fptr (cs.drop 7)) := fieldAddr_fptr (n := 0) rfl cs
@[go_sem high] theorem fv_149_7 (cs : List AV) : aField Tryd.prog 149 (.agg cs) 7 = aPart Tryd.prog 146 cs 7 := field_agg rfl cs
@[go_sem high] theorem fa_149_8 (id g i c : Nat) : aFieldAddr Tryd.prog 149 (.ptr id g i c) 8 = some (True, .ptr id g i (c + 8)) := fieldAddr_ptr (n := 0) rfl id g i c
@[go_sem high] theorem ff_149_8 (cs : List AV) : aFieldAddr Tryd.prog 149 (.fptr cs) 8 = some (8 ≤ cs.length, .fptr (cs.drop 8)) := fieldAddr_fptr (n := 0) rfl cs
@[go_sem high] theorem fv_149_8 (cs : List AV) : aField Tryd.prog 149 (.agg cs) 8 = aPart Tryd.prog 127 cs 8 := field_agg rfl cs
@[go_sem high] theorem fa_149_9 (id g i c : Nat) : aFieldAddr Tryd.prog 149 (.ptr id g i c) 9 = some (True, .ptr id g i (c + 9)) := fieldAddr_ptr (n := 0) rfl id g i c
@[go_sem high] theorem ff_149_9 (cs : List AV) : aFieldAddr Tryd.prog 149 (.fptr cs) 9 = some (9 ≤ cs.length, .fptr (cs.drop 9)) := fieldAddr_fptr (n := 0) rfl cs
@[go_sem high] theorem fv_149_9 (cs : List AV) : aField Tryd.prog 149 (.agg cs) 9 = aPart Tryd.prog 147 cs 9 := field_agg rfl cs
@[go_sem high] theorem fa_150_0 (id g i c : Nat) : aFieldAddr Tryd.prog 150 (.ptr id g i c) 0 = some (True, .ptr id g i (c + 0)) := fieldAddr_ptr (n := 0) rfl id g i c
@[go_sem high] theorem ff_150_0 (cs : List AV) : aFieldAddr Tryd.prog 150 (.fptr cs) 0 = some (0 ≤ cs.length, .fptr (cs.drop 0)) := fieldAddr_fptr (n := 0) rfl cs
@[go_sem high] theorem fv_150_0 (cs : List AV) : aField Tryd.prog 150 (.agg cs) 0 = aPart Tryd.prog 12 cs 0 := field_agg rfl cs
@[go_sem high] theorem fa_150_1 (id g i c : Nat) : aFieldAddr Tryd.prog 150 (.ptr id g i c) 1 = some (True, .ptr id g i (c + 1)) := fieldAddr_ptr (n := 0) rfl id g i c
@[go_sem high] theorem ff_150_1 (cs : List AV) : aFieldAddr Tryd.prog 150 (.fptr cs) 1 = some (1 ≤ cs.length, .fptr (cs.drop 1)) := fieldAddr_fptr (n := 0) rfl cs
@[go_sem high] theorem fv_150_1 (cs : List AV) : aField Tryd.prog 150 (.agg cs) 1 = aPart Tryd.prog 12 cs 1 := field_agg rfl cs
@[go_sem high] theorem fa_150_2 (id g i c : Nat) : aFieldAddr Tryd.prog 150 (.ptr id g i c) 2 = some (True, .ptr id g i (c + 2)) := fieldAddr_ptr (n := 0) rfl id g i c
@[go_sem high] theorem ff_150_2 (cs : List AV) : aFieldAddr Tryd.prog 150 (.fptr cs) 2 = some (2 ≤ cs.length, .fptr (cs.drop 2)) := fieldAddr_fptr (n := 0) rfl cs
@[go_sem high] theorem fv_150_2 (cs : List AV) : aField Tryd.prog 150 (.agg cs) 2 = aPart Tryd.prog 122 cs 2 := field_agg rfl cs
@[go_sem high] theorem fa_150_3 (id g i c : Nat) : aFieldAddr Tryd.prog 150 (.ptr id g i c) 3 = some (True, .ptr id g i (c + 3)) := fieldAddr_ptr (n := 0) rfl id g i c
@[go_sem high] theorem ff_150_3 (cs : List AV) : aFieldAddr Tryd.prog 150 (.fptr cs) 3 = some (3 ≤ cs.length, .fptr (cs.drop 3)) := fieldAddr_fptr (n := 0) rfl cs
@[go_sem high] theorem fv_150_3 (cs : List AV) : aField Tryd.prog 150 (.agg cs) 3 = aPart Tryd.prog 144 cs 3 := field_agg rfl cs
@[go_sem high] theorem fa_150_4 (id g i c : Nat) : aFieldAddr Tryd.prog 150 (.ptr id g i c) 4 = some (True, .ptr id g i (c + 4)) := fieldAddr_ptr (n := 0) rfl id g i c
@[go_sem high] theorem ff_150_4 (cs : List AV) : aFieldAddr Tryd.prog 150 (.fptr cs) 4 = some (4 ≤ cs.length, .fptr (cs.drop 4)) := fieldAddr_fptr (n := 0) rfl cs
@[go_sem high] theorem fv_150_4 (cs : List AV) : aField Tryd.prog 150 (.agg cs) 4 = aPart Tryd.prog 5 cs 4 := field_agg rfl cs
@[go_sem high] theorem fa_150_5 (id g i c : Nat) : aFieldAddr Tryd.prog 150 (.ptr id g i c) 5 = some (True, .ptr id g i (c + 5)) := fieldAddr_ptr (n := 0) rfl id g i c
@[go_sem high] theorem ff_150_5 (cs : List AV) : aFieldAddr Tryd.prog 150 (.fptr cs) 5 = some (5 ≤ cs.length, .fptr (cs.drop 5)) := fieldAddr_fptr (n := 0) rfl cs
@[go_sem high] theorem fv_150_5 (cs : List AV) : aField Tryd.prog 150 (.agg cs) 5 = aPart Tryd.prog 5 cs 5 := field_agg rfl cs
@[go_sem high] theorem fa_150_6 (id g i c : Nat) : aFieldAddr Tryd.prog 150 (.ptr id g i c) 6 = some (True, .ptr id g i (c + 6)) := fieldAddr_ptr (n := 0) rfl id g i c
@[go_sem high] theorem ff_150_6 (cs : List AV) : aFieldAddr Tryd.prog 150 (.fptr cs) 6 = some (6 ≤ cs.length, .fptr (cs.drop 6)) := fieldAddr_fptr (n := 0) rfl cs
@[go_sem high] theorem fv_150_6 (cs : List AV) : aField Tryd.prog 150 (.agg cs) 6 = aPart Tryd.prog 145 cs 6 := field_agg rfl cs
@[go_sem high] theorem fa_150_7 (id g i c : Nat) : aFieldAddr Tryd.prog 150 (.ptr id g i c) 7 = some (True, .ptr id g i (c + 7)) := fieldAddr_ptr (n := 0) rfl id g i c
@[go_sem high] theorem ff_150_7 (cs : List AV) : aFieldAddr Tryd.prog 150 (.fptr cs) 7 = some (7 ≤ cs.length, .fptr (cs.drop 7)) := fieldAddr_fptr (n := 0) rfl cs
@[go_sem high] theorem fv_150_7 (cs : List AV) : aField Tryd.prog 150 (.agg cs) 7 = aPart Tryd.prog 146 cs 7 := field_agg rfl cs
@[go_sem high] theorem fa_150_8 (id g i c : Nat) : aFieldAddr Tryd.prog 150 (.ptr id g i c) 8 = some (True, .ptr id g i (c + 8)) := fieldAddr_ptr (n := 0) rfl id g i c
@[go_sem high] theorem ff_150_8 (cs : List AV) : aFieldAddr Tryd.prog 150 (.fptr cs) 8 = some (8 ≤ cs.length, .fptr (cs.drop 8)) := fieldAddr_fptr (n := 0) rfl cs
@[go_sem high] theorem fv_150_8 (cs : List AV) : aField Tryd.prog 150 (.agg cs) 8 = aPart Tryd.prog 127 cs 8 := field_agg rfl cs
@[go_sem high] theorem fa_150_9 (id g i c : Nat) : aFieldAddr Tryd.prog 150 (.ptr id g i c) 9 = some (True, .ptr id g i (c + 9)) := fieldAddr_ptr (n := 0) rfl id g i c
@[go_sem high] theorem ff_150_9 (cs : List AV) : aFieldAddr Tryd.prog 150 (.fptr cs) 9 = some (9 ≤ cs.length, .fptr (cs.drop 9)) := fieldAddr_fptr (n := 0) rfl cs
@[go_sem high] theorem fv_150_9 (cs : List AV) : aField Tryd.prog 150 (.agg cs) 9 = aPart Tryd.prog 147 cs 9 := field_agg rfl cs
end Go.Almanac
