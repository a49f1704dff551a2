/- The types, as equations (written by types.py). -/
import Derived.Test.YtkkckfnkejijdaaGreatDoorProg
import Derived.Test.YtkkckfnkejijdaaGreatDoorM2
/- The types, as equations (written by types.py). -/
namespace Go.Almanac
open Go.RowKit Go.Proofs Go.Abs
set_option maxRecDepth 1000000

@[go_sem] theorem aggT_0 : aggT Tryz.prog 0 = some false := rfl
@[go_sem] theorem tsz_0 : tsz Tryz.prog 0 = some 1 := rfl
@[go_sem] theorem hasZero_0 : hasZero Tryz.prog 0 = some 1 := rfl
@[go_sem] theorem tby_0 : tby Tryz.prog 0 = some 0 := rfl
@[go_sem] theorem zro_0 : zeroC Tryz.prog 0 = some [Abs.AV.tup []] := rfl
@[go_sem] theorem und_2 : Tryz.prog.underlying 2 = some (.int .i64) := rfl
@[go_sem] theorem aggT_2 : aggT Tryz.prog 2 = some false := rfl
@[go_sem] theorem tsz_2 : tsz Tryz.prog 2 = some 1 := rfl
@[go_sem] theorem hasZero_2 : hasZero Tryz.prog 2 = some 1 := rfl
@[go_sem] theorem tby_2 : tby Tryz.prog 2 = some 8 := rfl
@[go_sem] theorem zro_2 : zeroC Tryz.prog 2 = some [Abs.AV.int IntKind.i64 0] := rfl
@[go_sem] theorem und_3 : Tryz.prog.underlying 3 = some (.int .i64) := rfl
@[go_sem] theorem aggT_3 : aggT Tryz.prog 3 = some false := rfl
@[go_sem] theorem tsz_3 : tsz Tryz.prog 3 = some 1 := rfl
@[go_sem] theorem hasZero_3 : hasZero Tryz.prog 3 = some 1 := rfl
@[go_sem] theorem tby_3 : tby Tryz.prog 3 = some 8 := rfl
@[go_sem] theorem zro_3 : zeroC Tryz.prog 3 = some [Abs.AV.int IntKind.i64 0] := rfl
@[go_sem] theorem und_4 : Tryz.prog.underlying 4 = some (.bool) := rfl
@[go_sem] theorem aggT_4 : aggT Tryz.prog 4 = some false := rfl
@[go_sem] theorem tsz_4 : tsz Tryz.prog 4 = some 1 := rfl
@[go_sem] theorem hasZero_4 : hasZero Tryz.prog 4 = some 1 := rfl
@[go_sem] theorem tby_4 : tby Tryz.prog 4 = some 1 := rfl
@[go_sem] theorem zro_4 : zeroC Tryz.prog 4 = some [Abs.AV.bool false] := rfl
@[go_sem] theorem und_5 : Tryz.prog.underlying 5 = some (.int .u8) := rfl
@[go_sem] theorem aggT_5 : aggT Tryz.prog 5 = some false := rfl
@[go_sem] theorem tsz_5 : tsz Tryz.prog 5 = some 1 := rfl
@[go_sem] theorem hasZero_5 : hasZero Tryz.prog 5 = some 1 := rfl
@[go_sem] theorem tby_5 : tby Tryz.prog 5 = some 1 := rfl
@[go_sem] theorem zro_5 : zeroC Tryz.prog 5 = some [Abs.AV.int IntKind.u8 0] := rfl
@[go_sem] theorem und_9 : Tryz.prog.underlying 9 = some (.string) := rfl
@[go_sem] theorem aggT_9 : aggT Tryz.prog 9 = some false := rfl
@[go_sem] theorem tsz_9 : tsz Tryz.prog 9 = some 1 := rfl
@[go_sem] theorem hasZero_9 : hasZero Tryz.prog 9 = some 1 := rfl
@[go_sem] theorem tby_9 : tby Tryz.prog 9 = some 16 := rfl
@[go_sem] theorem zro_9 : zeroC Tryz.prog 9 = some [Abs.AV.str []] := rfl
@[go_sem] theorem aggT_20 : aggT Tryz.prog 20 = some false := rfl
@[go_sem] theorem tsz_20 : tsz Tryz.prog 20 = some 1 := rfl
@[go_sem] theorem hasZero_20 : hasZero Tryz.prog 20 = some 1 := rfl
@[go_sem] theorem tby_20 : tby Tryz.prog 20 = some 16 := rfl
@[go_sem] theorem zro_20 : zeroC Tryz.prog 20 = some [Abs.AV.nili] := rfl
@[go_sem] theorem und_21 : Tryz.prog.underlying 21 = some (.int .i32) := rfl
@[go_sem] theorem aggT_21 : aggT Tryz.prog 21 = some false := rfl
@[go_sem] theorem tsz_21 : tsz Tryz.prog 21 = some 1 := rfl
@[go_sem] theorem hasZero_21 : hasZero Tryz.prog 21 = some 1 := rfl
@[go_sem] theorem tby_21 : tby Tryz.prog 21 = some 4 := rfl
@[go_sem] theorem zro_21 : zeroC Tryz.prog 21 = some [Abs.AV.int IntKind.i32 0] := rfl
@[go_sem] theorem und_29 : Tryz.prog.underlying 29 = some (.int .i64) := rfl
@[go_sem] theorem aggT_29 : aggT Tryz.prog 29 = some false := rfl
@[go_sem] theorem tsz_29 : tsz Tryz.prog 29 = some 1 := rfl
@[go_sem] theorem hasZero_29 : hasZero Tryz.prog 29 = some 1 := rfl
@[go_sem] theorem tby_29 : tby Tryz.prog 29 = some 8 := rfl
@[go_sem] theorem zro_29 : zeroC Tryz.prog 29 = some [Abs.AV.int IntKind.i64 0] := rfl
@[go_sem] theorem und_34 : Tryz.prog.underlying 34 = some (.int .u64) := rfl
@[go_sem] theorem aggT_34 : aggT Tryz.prog 34 = some false := rfl
@[go_sem] theorem tsz_34 : tsz Tryz.prog 34 = some 1 := rfl
@[go_sem] theorem hasZero_34 : hasZero Tryz.prog 34 = some 1 := rfl
@[go_sem] theorem tby_34 : tby Tryz.prog 34 = some 8 := rfl
@[go_sem] theorem zro_34 : zeroC Tryz.prog 34 = some [Abs.AV.int IntKind.u64 0] := rfl
@[go_sem] theorem und_36 : Tryz.prog.underlying 36 = some (.slice 5) := rfl
@[go_sem] theorem aggT_36 : aggT Tryz.prog 36 = some false := rfl
@[go_sem] theorem tsz_36 : tsz Tryz.prog 36 = some 1 := rfl
@[go_sem] theorem hasZero_36 : hasZero Tryz.prog 36 = some 1 := rfl
@[go_sem] theorem tby_36 : tby Tryz.prog 36 = some 24 := rfl
@[go_sem] theorem zro_36 : zeroC Tryz.prog 36 = some [Abs.AV.nils] := rfl
@[go_sem] theorem aggT_47 : aggT Tryz.prog 47 = some false := rfl
@[go_sem] theorem tsz_47 : tsz Tryz.prog 47 = some 1 := rfl
@[go_sem] theorem hasZero_47 : hasZero Tryz.prog 47 = some 1 := rfl
@[go_sem] theorem tby_47 : tby Tryz.prog 47 = some 0 := rfl
@[go_sem] theorem zro_47 : zeroC Tryz.prog 47 = some [Abs.AV.junk] := rfl
@[go_sem] theorem aggT_49 : aggT Tryz.prog 49 = some false := rfl
@[go_sem] theorem tsz_49 : tsz Tryz.prog 49 = some 1 := rfl
@[go_sem] theorem hasZero_49 : hasZero Tryz.prog 49 = some 1 := rfl
@[go_sem] theorem tby_49 : tby Tryz.prog 49 = some 0 := rfl
@[go_sem] theorem zro_49 : zeroC Tryz.prog 49 = some [Abs.AV.junk] := rfl
@[go_sem] theorem aggT_51 : aggT Tryz.prog 51 = some false := rfl
@[go_sem] theorem tsz_51 : tsz Tryz.prog 51 = some 1 := rfl
@[go_sem] theorem hasZero_51 : hasZero Tryz.prog 51 = some 1 := rfl
@[go_sem] theorem tby_51 : tby Tryz.prog 51 = some 0 := rfl
@[go_sem] theorem zro_51 : zeroC Tryz.prog 51 = some [Abs.AV.junk] := rfl
@[go_sem] theorem aggT_53 : aggT Tryz.prog 53 = some false := rfl
@[go_sem] theorem tsz_53 : tsz Tryz.prog 53 = some 1 := rfl
@[go_sem] theorem hasZero_53 : hasZero Tryz.prog 53 = some 1 := rfl
@[go_sem] theorem tby_53 : tby Tryz.prog 53 = some 0 := rfl
@[go_sem] theorem zro_53 : zeroC Tryz.prog 53 = some [Abs.AV.junk] := rfl
@[go_sem] theorem aggT_56 : aggT Tryz.prog 56 = some true := rfl
@[go_sem] theorem tsz_56 : tsz Tryz.prog 56 = some 3 := rfl
@[go_sem] theorem hasZero_56 : hasZero Tryz.prog 56 = some 3 := rfl
@[go_sem] theorem tby_56 : tby Tryz.prog 56 = some 16 := rfl
@[go_sem] theorem szs_56 : szsOf Tryz.prog 56 = true := rfl
@[go_sem] theorem zro_56 : zeroC Tryz.prog 56 = some [Abs.AV.int IntKind.i64 0, Abs.AV.bool false, Abs.AV.bool false] := rfl
@[go_sem] theorem aggT_57 : aggT Tryz.prog 57 = some false := rfl
@[go_sem] theorem tsz_57 : tsz Tryz.prog 57 = some 1 := rfl
@[go_sem] theorem hasZero_57 : hasZero Tryz.prog 57 = some 1 := rfl
@[go_sem] theorem tby_57 : tby Tryz.prog 57 = some 0 := rfl
@[go_sem] theorem zro_57 : zeroC Tryz.prog 57 = some [Abs.AV.junk] := rfl
@[go_sem] theorem aggT_59 : aggT Tryz.prog 59 = some false := rfl
@[go_sem] theorem tsz_59 : tsz Tryz.prog 59 = some 1 := rfl
@[go_sem] theorem hasZero_59 : hasZero Tryz.prog 59 = some 1 := rfl
@[go_sem] theorem tby_59 : tby Tryz.prog 59 = some 0 := rfl
@[go_sem] theorem zro_59 : zeroC Tryz.prog 59 = some [Abs.AV.junk] := rfl
@[go_sem] theorem und_61 : Tryz.prog.underlying 61 = some (.slice 56) := rfl
@[go_sem] theorem aggT_61 : aggT Tryz.prog 61 = some false := rfl
@[go_sem] theorem tsz_61 : tsz Tryz.prog 61 = some 1 := rfl
@[go_sem] theorem hasZero_61 : hasZero Tryz.prog 61 = some 1 := rfl
@[go_sem] theorem tby_61 : tby Tryz.prog 61 = some 24 := rfl
@[go_sem] theorem zro_61 : zeroC Tryz.prog 61 = some [Abs.AV.nils] := rfl
@[go_sem] theorem aggT_62 : aggT Tryz.prog 62 = some false := rfl
@[go_sem] theorem tsz_62 : tsz Tryz.prog 62 = some 1 := rfl
@[go_sem] theorem hasZero_62 : hasZero Tryz.prog 62 = some 1 := rfl
@[go_sem] theorem tby_62 : tby Tryz.prog 62 = some 0 := rfl
@[go_sem] theorem zro_62 : zeroC Tryz.prog 62 = some [Abs.AV.junk] := rfl
@[go_sem] theorem aggT_64 : aggT Tryz.prog 64 = some false := rfl
@[go_sem] theorem tsz_64 : tsz Tryz.prog 64 = some 1 := rfl
@[go_sem] theorem hasZero_64 : hasZero Tryz.prog 64 = some 1 := rfl
@[go_sem] theorem tby_64 : tby Tryz.prog 64 = some 0 := rfl
@[go_sem] theorem zro_64 : zeroC Tryz.prog 64 = some [Abs.AV.junk] := rfl
@[go_sem] theorem aggT_67 : aggT Tryz.prog 67 = some true := rfl
@[go_sem] theorem tsz_67 : tsz Tryz.prog 67 = some 4 := rfl
@[go_sem] theorem hasZero_67 : hasZero Tryz.prog 67 = some 4 := rfl
@[go_sem] theorem tby_67 : tby Tryz.prog 67 = some 24 := rfl
@[go_sem] theorem szs_67 : szsOf Tryz.prog 67 = true := rfl
@[go_sem] theorem zro_67 : zeroC Tryz.prog 67 = some [Abs.AV.int IntKind.i64 0, Abs.AV.bool false, Abs.AV.bool false, Abs.AV.int IntKind.i64 0] := rfl
@[go_sem] theorem aggT_68 : aggT Tryz.prog 68 = some false := rfl
@[go_sem] theorem tsz_68 : tsz Tryz.prog 68 = some 1 := rfl
@[go_sem] theorem hasZero_68 : hasZero Tryz.prog 68 = some 1 := rfl
@[go_sem] theorem tby_68 : tby Tryz.prog 68 = some 0 := rfl
@[go_sem] theorem zro_68 : zeroC Tryz.prog 68 = some [Abs.AV.junk] := rfl
@[go_sem] theorem aggT_70 : aggT Tryz.prog 70 = some false := rfl
@[go_sem] theorem tsz_70 : tsz Tryz.prog 70 = some 1 := rfl
@[go_sem] theorem hasZero_70 : hasZero Tryz.prog 70 = some 1 := rfl
@[go_sem] theorem tby_70 : tby Tryz.prog 70 = some 0 := rfl
@[go_sem] theorem zro_70 : zeroC Tryz.prog 70 = some [Abs.AV.junk] := rfl
@[go_sem] theorem aggT_74 : aggT Tryz.prog 74 = some false := rfl
@[go_sem] theorem tsz_74 : tsz Tryz.prog 74 = some 1 := rfl
@[go_sem] theorem hasZero_74 : hasZero Tryz.prog 74 = some 1 := rfl
@[go_sem] theorem tby_74 : tby Tryz.prog 74 = some 8 := rfl
@[go_sem] theorem zro_74 : zeroC Tryz.prog 74 = some [Abs.AV.nilf] := rfl
@[go_sem] theorem und_81 : Tryz.prog.underlying 81 = some (.slice 9) := rfl
@[go_sem] theorem aggT_81 : aggT Tryz.prog 81 = some false := rfl
@[go_sem] theorem tsz_81 : tsz Tryz.prog 81 = some 1 := rfl
@[go_sem] theorem hasZero_81 : hasZero Tryz.prog 81 = some 1 := rfl
@[go_sem] theorem tby_81 : tby Tryz.prog 81 = some 24 := rfl
@[go_sem] theorem zro_81 : zeroC Tryz.prog 81 = some [Abs.AV.nils] := rfl
@[go_sem] theorem aggT_105 : aggT Tryz.prog 105 = some false := rfl
@[go_sem] theorem tsz_105 : tsz Tryz.prog 105 = some 1 := rfl
@[go_sem] theorem hasZero_105 : hasZero Tryz.prog 105 = some 1 := rfl
@[go_sem] theorem tby_105 : tby Tryz.prog 105 = some 0 := rfl
@[go_sem] theorem zro_105 : zeroC Tryz.prog 105 = some [Abs.AV.junk] := rfl
@[go_sem] theorem aggT_107 : aggT Tryz.prog 107 = some false := rfl
@[go_sem] theorem tsz_107 : tsz Tryz.prog 107 = some 1 := rfl
@[go_sem] theorem hasZero_107 : hasZero Tryz.prog 107 = some 1 := rfl
@[go_sem] theorem tby_107 : tby Tryz.prog 107 = some 0 := rfl
@[go_sem] theorem zro_107 : zeroC Tryz.prog 107 = some [Abs.AV.junk] := rfl
@[go_sem] theorem und_110 : Tryz.prog.underlying 110 = some (.pointer 112) := rfl
@[go_sem] theorem aggT_110 : aggT Tryz.prog 110 = some false := rfl
@[go_sem] theorem tsz_110 : tsz Tryz.prog 110 = some 1 := rfl
@[go_sem] theorem hasZero_110 : hasZero Tryz.prog 110 = some 1 := rfl
@[go_sem] theorem tby_110 : tby Tryz.prog 110 = some 8 := rfl
@[go_sem] theorem zro_110 : zeroC Tryz.prog 110 = some [Abs.AV.nilp] := rfl
@[go_sem] theorem aggT_112 : aggT Tryz.prog 112 = some true := rfl
@[go_sem] theorem tsz_112 : tsz Tryz.prog 112 = some 2 := rfl
@[go_sem] theorem hasZero_112 : hasZero Tryz.prog 112 = some 2 := rfl
@[go_sem] theorem tby_112 : tby Tryz.prog 112 = some 32 := rfl
@[go_sem] theorem szs_112 : szsOf Tryz.prog 112 = true := rfl
@[go_sem] theorem zro_112 : zeroC Tryz.prog 112 = some [Abs.AV.nilp, Abs.AV.nils] := rfl
@[go_sem] theorem aggT_113 : aggT Tryz.prog 113 = some false := rfl
@[go_sem] theorem tsz_113 : tsz Tryz.prog 113 = some 1 := rfl
@[go_sem] theorem hasZero_113 : hasZero Tryz.prog 113 = some 1 := rfl
@[go_sem] theorem tby_113 : tby Tryz.prog 113 = some 0 := rfl
@[go_sem] theorem zro_113 : zeroC Tryz.prog 113 = some [Abs.AV.junk] := rfl
@[go_sem] theorem aggT_116 : aggT Tryz.prog 116 = some false := rfl
@[go_sem] theorem tsz_116 : tsz Tryz.prog 116 = some 1 := rfl
@[go_sem] theorem hasZero_116 : hasZero Tryz.prog 116 = some 1 := rfl
@[go_sem] theorem tby_116 : tby Tryz.prog 116 = some 16 := rfl
@[go_sem] theorem zro_116 : zeroC Tryz.prog 116 = some [Abs.AV.nili] := rfl
@[go_sem] theorem aggT_117 : aggT Tryz.prog 117 = some false := rfl
@[go_sem] theorem tsz_117 : tsz Tryz.prog 117 = some 1 := rfl
@[go_sem] theorem hasZero_117 : hasZero Tryz.prog 117 = some 1 := rfl
@[go_sem] theorem tby_117 : tby Tryz.prog 117 = some 0 := rfl
@[go_sem] theorem zro_117 : zeroC Tryz.prog 117 = some [Abs.AV.junk] := rfl
@[go_sem] theorem aggT_126 : aggT Tryz.prog 126 = some false := rfl
@[go_sem] theorem tsz_126 : tsz Tryz.prog 126 = some 1 := rfl
@[go_sem] theorem hasZero_126 : hasZero Tryz.prog 126 = some 1 := rfl
@[go_sem] theorem tby_126 : tby Tryz.prog 126 = some 0 := rfl
@[go_sem] theorem zro_126 : zeroC Tryz.prog 126 = some [Abs.AV.junk] := rfl
@[go_sem] theorem aggT_155 : aggT Tryz.prog 155 = some false := rfl
@[go_sem] theorem tsz_155 : tsz Tryz.prog 155 = some 1 := rfl
@[go_sem] theorem hasZero_155 : hasZero Tryz.prog 155 = some 1 := rfl
@[go_sem] theorem tby_155 : tby Tryz.prog 155 = some 0 := rfl
@[go_sem] theorem zro_155 : zeroC Tryz.prog 155 = some [Abs.AV.junk] := rfl
@[go_sem] theorem und_158 : Tryz.prog.underlying 158 = some (.pointer 5) := rfl
@[go_sem] theorem aggT_158 : aggT Tryz.prog 158 = some false := rfl
@[go_sem] theorem tsz_158 : tsz Tryz.prog 158 = some 1 := rfl
@[go_sem] theorem hasZero_158 : hasZero Tryz.prog 158 = some 1 := rfl
@[go_sem] theorem tby_158 : tby Tryz.prog 158 = some 8 := rfl
@[go_sem] theorem zro_158 : zeroC Tryz.prog 158 = some [Abs.AV.nilp] := rfl
@[go_sem] theorem aggT_164 : aggT Tryz.prog 164 = some false := rfl
@[go_sem] theorem tsz_164 : tsz Tryz.prog 164 = some 1 := rfl
@[go_sem] theorem hasZero_164 : hasZero Tryz.prog 164 = some 1 := rfl
@[go_sem] theorem tby_164 : tby Tryz.prog 164 = some 0 := rfl
@[go_sem] theorem zro_164 : zeroC Tryz.prog 164 = some [Abs.AV.junk] := rfl
@[go_sem] theorem und_170 : Tryz.prog.underlying 170 = some (.int .u32) := rfl
@[go_sem] theorem aggT_170 : aggT Tryz.prog 170 = some false := rfl
@[go_sem] theorem tsz_170 : tsz Tryz.prog 170 = some 1 := rfl
@[go_sem] theorem hasZero_170 : hasZero Tryz.prog 170 = some 1 := rfl
@[go_sem] theorem tby_170 : tby Tryz.prog 170 = some 4 := rfl
@[go_sem] theorem zro_170 : zeroC Tryz.prog 170 = some [Abs.AV.int IntKind.u32 0] := rfl
@[go_sem] theorem aggT_184 : aggT Tryz.prog 184 = some false := rfl
@[go_sem] theorem tsz_184 : tsz Tryz.prog 184 = some 1 := rfl
@[go_sem] theorem hasZero_184 : hasZero Tryz.prog 184 = some 1 := rfl
@[go_sem] theorem tby_184 : tby Tryz.prog 184 = some 0 := rfl
@[go_sem] theorem zro_184 : zeroC Tryz.prog 184 = some [Abs.AV.junk] := rfl
@[go_sem] theorem und_193 : Tryz.prog.underlying 193 = some (.slice 2) := rfl
@[go_sem] theorem aggT_193 : aggT Tryz.prog 193 = some false := rfl
@[go_sem] theorem tsz_193 : tsz Tryz.prog 193 = some 1 := rfl
@[go_sem] theorem hasZero_193 : hasZero Tryz.prog 193 = some 1 := rfl
@[go_sem] theorem tby_193 : tby Tryz.prog 193 = some 24 := rfl
@[go_sem] theorem zro_193 : zeroC Tryz.prog 193 = some [Abs.AV.nils] := rfl
@[go_sem] theorem aggT_194 : aggT Tryz.prog 194 = some false := rfl
@[go_sem] theorem tsz_194 : tsz Tryz.prog 194 = some 1 := rfl
@[go_sem] theorem hasZero_194 : hasZero Tryz.prog 194 = some 1 := rfl
@[go_sem] theorem tby_194 : tby Tryz.prog 194 = some 8 := rfl
@[go_sem] theorem zro_194 : zeroC Tryz.prog 194 = some [Abs.AV.nilf] := rfl
@[go_sem] theorem aggT_195 : aggT Tryz.prog 195 = some false := rfl
@[go_sem] theorem tsz_195 : tsz Tryz.prog 195 = some 1 := rfl
@[go_sem] theorem hasZero_195 : hasZero Tryz.prog 195 = some 1 := rfl
@[go_sem] theorem tby_195 : tby Tryz.prog 195 = some 8 := rfl
@[go_sem] theorem zro_195 : zeroC Tryz.prog 195 = some [Abs.AV.nilf] := rfl
@[go_sem] theorem und_197 : Tryz.prog.underlying 197 = some (.unsafePointer) := rfl
@[go_sem] theorem aggT_197 : aggT Tryz.prog 197 = some false := rfl
@[go_sem] theorem tsz_197 : tsz Tryz.prog 197 = some 1 := rfl
@[go_sem] theorem hasZero_197 : hasZero Tryz.prog 197 = some 1 := rfl
@[go_sem] theorem tby_197 : tby Tryz.prog 197 = some 8 := rfl
@[go_sem] theorem zro_197 : zeroC Tryz.prog 197 = some [Abs.AV.nilp] := rfl
@[go_sem] theorem aggT_201 : aggT Tryz.prog 201 = some false := rfl
@[go_sem] theorem tsz_201 : tsz Tryz.prog 201 = some 1 := rfl
@[go_sem] theorem hasZero_201 : hasZero Tryz.prog 201 = some 1 := rfl
@[go_sem] theorem tby_201 : tby Tryz.prog 201 = some 8 := rfl
@[go_sem] theorem zro_201 : zeroC Tryz.prog 201 = some [Abs.AV.nilf] := rfl
@[go_sem] theorem aggT_202 : aggT Tryz.prog 202 = some false := rfl
@[go_sem] theorem tsz_202 : tsz Tryz.prog 202 = some 1 := rfl
@[go_sem] theorem hasZero_202 : hasZero Tryz.prog 202 = some 1 := rfl
@[go_sem] theorem tby_202 : tby Tryz.prog 202 = some 8 := rfl
@[go_sem] theorem zro_202 : zeroC Tryz.prog 202 = some [Abs.AV.nilf] := rfl
@[go_sem] theorem aggT_206 : aggT Tryz.prog 206 = some true := rfl
@[go_sem] theorem tsz_206 : tsz Tryz.prog 206 = some 24 := rfl
@[go_sem] theorem hasZero_206 : hasZero Tryz.prog 206 = some 24 := rfl
@[go_sem] theorem tby_206 : tby Tryz.prog 206 = some 24 := rfl
@[go_sem] theorem aggT_209 : aggT Tryz.prog 209 = some false := rfl
@[go_sem] theorem tsz_209 : tsz Tryz.prog 209 = some 1 := rfl
@[go_sem] theorem hasZero_209 : hasZero Tryz.prog 209 = some 1 := rfl
@[go_sem] theorem tby_209 : tby Tryz.prog 209 = some 0 := rfl
@[go_sem] theorem zro_209 : zeroC Tryz.prog 209 = some [Abs.AV.junk] := rfl
@[go_sem] theorem aggT_217 : aggT Tryz.prog 217 = some false := rfl
@[go_sem] theorem tsz_217 : tsz Tryz.prog 217 = some 1 := rfl
@[go_sem] theorem hasZero_217 : hasZero Tryz.prog 217 = some 1 := rfl
@[go_sem] theorem tby_217 : tby Tryz.prog 217 = some 8 := rfl
@[go_sem] theorem zro_217 : zeroC Tryz.prog 217 = some [Abs.AV.nilf] := rfl
@[go_sem] theorem und_219 : Tryz.prog.underlying 219 = some (.int .u64) := rfl
@[go_sem] theorem aggT_219 : aggT Tryz.prog 219 = some false := rfl
@[go_sem] theorem tsz_219 : tsz Tryz.prog 219 = some 1 := rfl
@[go_sem] theorem hasZero_219 : hasZero Tryz.prog 219 = some 1 := rfl
@[go_sem] theorem tby_219 : tby Tryz.prog 219 = some 8 := rfl
@[go_sem] theorem zro_219 : zeroC Tryz.prog 219 = some [Abs.AV.int IntKind.u64 0] := rfl
@[go_sem] theorem aggT_220 : aggT Tryz.prog 220 = some true := rfl
@[go_sem] theorem tsz_220 : tsz Tryz.prog 220 = some 12 := rfl
@[go_sem] theorem hasZero_220 : hasZero Tryz.prog 220 = some 12 := rfl
@[go_sem] theorem tby_220 : tby Tryz.prog 220 = some 96 := rfl
@[go_sem] theorem zro_220 : zeroC Tryz.prog 220 = some [Abs.AV.int IntKind.i64 0, Abs.AV.int IntKind.i64 0, Abs.AV.int IntKind.i64 0, Abs.AV.int IntKind.i64 0, Abs.AV.int IntKind.i64 0, Abs.AV.int IntKind.i64 0, Abs.AV.int IntKind.i64 0, Abs.AV.int IntKind.i64 0, Abs.AV.int IntKind.i64 0, Abs.AV.int IntKind.i64 0, Abs.AV.int IntKind.i64 0, Abs.AV.int IntKind.i64 0] := rfl
@[go_sem] theorem aggT_222 : aggT Tryz.prog 222 = some false := rfl
@[go_sem] theorem tsz_222 : tsz Tryz.prog 222 = some 1 := rfl
@[go_sem] theorem hasZero_222 : hasZero Tryz.prog 222 = some 1 := rfl
@[go_sem] theorem tby_222 : tby Tryz.prog 222 = some 8 := rfl
@[go_sem] theorem zro_222 : zeroC Tryz.prog 222 = some [Abs.AV.nilf] := rfl
@[go_sem] theorem aggT_226 : aggT Tryz.prog 226 = some true := rfl
@[go_sem] theorem tsz_226 : tsz Tryz.prog 226 = some 20 := rfl
@[go_sem] theorem hasZero_226 : hasZero Tryz.prog 226 = some 20 := rfl
@[go_sem] theorem tby_226 : tby Tryz.prog 226 = some 160 := rfl
@[go_sem] theorem aggT_227 : aggT Tryz.prog 227 = some true := rfl
@[go_sem] theorem tsz_227 : tsz Tryz.prog 227 = some 65 := rfl
@[go_sem] theorem hasZero_227 : hasZero Tryz.prog 227 = some 65 := rfl
@[go_sem] theorem tby_227 : tby Tryz.prog 227 = some 65 := rfl
@[go_sem] theorem aggT_229 : aggT Tryz.prog 229 = some false := rfl
@[go_sem] theorem tsz_229 : tsz Tryz.prog 229 = some 1 := rfl
@[go_sem] theorem hasZero_229 : hasZero Tryz.prog 229 = some 1 := rfl
@[go_sem] theorem tby_229 : tby Tryz.prog 229 = some 0 := rfl
@[go_sem] theorem zro_229 : zeroC Tryz.prog 229 = some [Abs.AV.junk] := rfl
@[go_sem] theorem aggT_241 : aggT Tryz.prog 241 = some true := rfl
@[go_sem] theorem tsz_241 : tsz Tryz.prog 241 = some 256 := rfl
@[go_sem] theorem hasZero_241 : hasZero Tryz.prog 241 = some 256 := rfl
@[go_sem] theorem tby_241 : tby Tryz.prog 241 = some 256 := rfl
@[go_sem] theorem aggT_249 : aggT Tryz.prog 249 = some true := rfl
@[go_sem] theorem tsz_249 : tsz Tryz.prog 249 = some 2 := rfl
@[go_sem] theorem hasZero_249 : hasZero Tryz.prog 249 = some 2 := rfl
@[go_sem] theorem tby_249 : tby Tryz.prog 249 = some 2 := rfl
@[go_sem] theorem szs_249 : szsOf Tryz.prog 249 = true := rfl
@[go_sem] theorem zro_249 : zeroC Tryz.prog 249 = some [Abs.AV.int IntKind.u8 0, Abs.AV.int IntKind.u8 0] := rfl
@[go_sem] theorem aggT_250 : aggT Tryz.prog 250 = some true := rfl
@[go_sem] theorem tsz_250 : tsz Tryz.prog 250 = some 32 := rfl
@[go_sem] theorem hasZero_250 : hasZero Tryz.prog 250 = some 32 := rfl
@[go_sem] theorem tby_250 : tby Tryz.prog 250 = some 32 := rfl
@[go_sem] theorem aggT_251 : aggT Tryz.prog 251 = some false := rfl
@[go_sem] theorem tsz_251 : tsz Tryz.prog 251 = some 1 := rfl
@[go_sem] theorem hasZero_251 : hasZero Tryz.prog 251 = some 1 := rfl
@[go_sem] theorem tby_251 : tby Tryz.prog 251 = some 0 := rfl
@[go_sem] theorem zro_251 : zeroC Tryz.prog 251 = some [Abs.AV.junk] := rfl
@[go_sem] theorem aggT_255 : aggT Tryz.prog 255 = some false := rfl
@[go_sem] theorem tsz_255 : tsz Tryz.prog 255 = some 1 := rfl
@[go_sem] theorem hasZero_255 : hasZero Tryz.prog 255 = some 1 := rfl
@[go_sem] theorem tby_255 : tby Tryz.prog 255 = some 0 := rfl
@[go_sem] theorem zro_255 : zeroC Tryz.prog 255 = some [Abs.AV.junk] := rfl
@[go_sem] theorem aggT_276 : aggT Tryz.prog 276 = some true := rfl
@[go_sem] theorem tsz_276 : tsz Tryz.prog 276 = some 32 := rfl
@[go_sem] theorem hasZero_276 : hasZero Tryz.prog 276 = some 32 := rfl
@[go_sem] theorem tby_276 : tby Tryz.prog 276 = some 32 := rfl
@[go_sem] theorem aggT_277 : aggT Tryz.prog 277 = some true := rfl
@[go_sem] theorem tsz_277 : tsz Tryz.prog 277 = some 64 := rfl
@[go_sem] theorem hasZero_277 : hasZero Tryz.prog 277 = some 64 := rfl
@[go_sem] theorem tby_277 : tby Tryz.prog 277 = some 64 := rfl
@[go_sem high] theorem fa_7_0 (id g i c : Nat) : aFieldAddr Tryz.prog 7 (.ptr id g i c) 0 = some (True, .ptr id g i (c + 0)) := fieldAddr_ptr (n := 0) rfl id g i c
@[go_sem high] theorem ff_7_0 (cs : List AV) : aFieldAddr Tryz.prog 7 (.fptr cs) 0 = some (0 ≤ cs.length, .fptr (cs.drop 0)) := fieldAddr_fptr (n := 0) rfl cs
@[go_sem high] theorem fv_7_0 (cs : List AV) : aField Tryz.prog 7 (.agg cs) 0 = aPart Tryz.prog 2 cs 0 := field_agg rfl cs
@[go_sem high] theorem fa_7_1 (id g i c : Nat) : aFieldAddr Tryz.prog 7 (.ptr id g i c) 1 = some (True, .ptr id g i (c + 1)) := fieldAddr_ptr (n := 0) rfl id g i c
@[go_sem high] theorem ff_7_1 (cs : List AV) : aFieldAddr Tryz.prog 7 (.fptr cs) 1 = some (1 ≤ cs.length, .fptr (cs.drop 1)) := fieldAddr_fptr (n := 0) rfl cs
@[go_sem high] theorem fv_7_1 (cs : List AV) : aField Tryz.prog 7 (.agg cs) 1 = aPart Tryz.prog 3 cs 1 := field_agg rfl cs
@[go_sem high] theorem fa_7_2 (id g i c : Nat) : aFieldAddr Tryz.prog 7 (.ptr id g i c) 2 = some (True, .ptr id g i (c + 2)) := fieldAddr_ptr (n := 0) rfl id g i c
@[go_sem high] theorem ff_7_2 (cs : List AV) : aFieldAddr Tryz.prog 7 (.fptr cs) 2 = some (2 ≤ cs.length, .fptr (cs.drop 2)) := fieldAddr_fptr (n := 0) rfl cs
@[go_sem high] theorem fv_7_2 (cs : List AV) : aField Tryz.prog 7 (.agg cs) 2 = aPart Tryz.prog 4 cs 2 := field_agg rfl cs
@[go_sem high] theorem fa_7_3 (id g i c : Nat) : aFieldAddr Tryz.prog 7 (.ptr id g i c) 3 = some (True, .ptr id g i (c + 3)) := fieldAddr_ptr (n := 0) rfl id g i c
@[go_sem high] theorem ff_7_3 (cs : List AV) : aFieldAddr Tryz.prog 7 (.fptr cs) 3 = some (3 ≤ cs.length, .fptr (cs.drop 3)) := fieldAddr_fptr (n := 0) rfl cs
@[go_sem high] theorem fv_7_3 (cs : List AV) : aField Tryz.prog 7 (.agg cs) 3 = aPart Tryz.prog 6 cs 3 := field_agg rfl cs
@[go_sem high] theorem fa_8_0 (id g i c : Nat) : aFieldAddr Tryz.prog 8 (.ptr id g i c) 0 = some (True, .ptr id g i (c + 0)) := fieldAddr_ptr (n := 0) rfl id g i c
@[go_sem high] theorem ff_8_0 (cs : List AV) : aFieldAddr Tryz.prog 8 (.fptr cs) 0 = some (0 ≤ cs.length, .fptr (cs.drop 0)) := fieldAddr_fptr (n := 0) rfl cs
@[go_sem high] theorem fv_8_0 (cs : List AV) : aField Tryz.prog 8 (.agg cs) 0 = aPart Tryz.prog 2 cs 0 := field_agg rfl cs
@[go_sem high] theorem fa_8_1 (id g i c : Nat) : aFieldAddr Tryz.prog 8 (.ptr id g i c) 1 = some (True, .ptr id g i (c + 1)) := fieldAddr_ptr (n := 0) rfl id g i c
@[go_sem high] theorem ff_8_1 (cs : List AV) : aFieldAddr Tryz.prog 8 (.fptr cs) 1 = some (1 ≤ cs.length, .fptr (cs.drop 1)) := fieldAddr_fptr (n := 0) rfl cs
@[go_sem high] theorem fv_8_1 (cs : List AV) : aField Tryz.prog 8 (.agg cs) 1 = aPart Tryz.prog 3 cs 1 := field_agg rfl cs
@[go_sem high] theorem fa_8_2 (id g i c : Nat) : aFieldAddr Tryz.prog 8 (.ptr id g i c) 2 = some (True, .ptr id g i (c + 2)) := fieldAddr_ptr (n := 0) rfl id g i c
@[go_sem high] theorem ff_8_2 (cs : List AV) : aFieldAddr Tryz.prog 8 (.fptr cs) 2 = some (2 ≤ cs.length, .fptr (cs.drop 2)) := fieldAddr_fptr (n := 0) rfl cs
@[go_sem high] theorem fv_8_2 (cs : List AV) : aField Tryz.prog 8 (.agg cs) 2 = aPart Tryz.prog 4 cs 2 := field_agg rfl cs
@[go_sem high] theorem fa_8_3 (id g i c : Nat) : aFieldAddr Tryz.prog 8 (.ptr id g i c) 3 = some (True, .ptr id g i (c + 3)) := fieldAddr_ptr (n := 0) rfl id g i c
@[go_sem high] theorem ff_8_3 (cs : List AV) : aFieldAddr Tryz.prog 8 (.fptr cs) 3 = some (3 ≤ cs.length, .fptr (cs.drop 3)) := fieldAddr_fptr (n := 0) rfl cs
@[go_sem high] theorem fv_8_3 (cs : List AV) : aField Tryz.prog 8 (.agg cs) 3 = aPart Tryz.prog 6 cs 3 := field_agg rfl cs
@[go_sem high] theorem fa_13_0 (id g i c : Nat) : aFieldAddr Tryz.prog 13 (.ptr id g i c) 0 = some (True, .ptr id g i (c + 0)) := fieldAddr_ptr (n := 0) rfl id g i c
@[go_sem high] theorem ff_13_0 (cs : List AV) : aFieldAddr Tryz.prog 13 (.fptr cs) 0 = some (0 ≤ cs.length, .fptr (cs.drop 0)) := fieldAddr_fptr (n := 0) rfl cs
@[go_sem high] theorem fv_13_0 (cs : List AV) : aField Tryz.prog 13 (.agg cs) 0 = aPart Tryz.prog 9 cs 0 := field_agg rfl cs
@[go_sem high] theorem fa_13_1 (id g i c : Nat) : aFieldAddr Tryz.prog 13 (.ptr id g i c) 1 = some (True, .ptr id g i (c + 1)) := fieldAddr_ptr (n := 0) rfl id g i c
@[go_sem high] theorem ff_13_1 (cs : List AV) : aFieldAddr Tryz.prog 13 (.fptr cs) 1 = some (1 ≤ cs.length, .fptr (cs.drop 1)) := fieldAddr_fptr (n := 0) rfl cs
@[go_sem high] theorem fv_13_1 (cs : List AV) : aField Tryz.prog 13 (.agg cs) 1 = aPart Tryz.prog 12 cs 1 := field_agg rfl cs
@[go_sem high] theorem fa_14_0 (id g i c : Nat) : aFieldAddr Tryz.prog 14 (.ptr id g i c) 0 = some (True, .ptr id g i (c + 0)) := fieldAddr_ptr (n := 0) rfl id g i c
@[go_sem high] theorem ff_14_0 (cs : List AV) : aFieldAddr Tryz.prog 14 (.fptr cs) 0 = some (0 ≤ cs.length, .fptr (cs.drop 0)) := fieldAddr_fptr (n := 0) rfl cs
@[go_sem high] theorem fv_14_0 (cs : List AV) : aField Tryz.prog 14 (.agg cs) 0 = aPart Tryz.prog 9 cs 0 := field_agg rfl cs
@[go_sem high] theorem fa_14_1 (id g i c : Nat) : aFieldAddr Tryz.prog 14 (.ptr id g i c) 1 = some (True, .ptr id g i (c + 1)) := fieldAddr_ptr (n := 0) rfl id g i c
@[go_sem high] theorem ff_14_1 (cs : List AV) : aFieldAddr Tryz.prog 14 (.fptr cs) 1 = some (1 ≤ cs.length, .fptr (cs.drop 1)) := fieldAddr_fptr (n := 0) rfl cs
@[go_sem high] theorem fv_14_1 (cs : List AV) : aField Tryz.prog 14 (.agg cs) 1 = aPart Tryz.prog 12 cs 1 := field_agg rfl cs
@[go_sem high] theorem fa_18_0 (id g i c : Nat) : aFieldAddr Tryz.prog 18 (.ptr id g i c) 0 = some (True, .ptr id g i (c + 0)) := fieldAddr_ptr (n := 0) rfl id g i c
@[go_sem high] theorem ff_18_0 (cs : List AV) : aFieldAddr Tryz.prog 18 (.fptr cs) 0 = some (0 ≤ cs.length, .fptr (cs.drop 0)) := fieldAddr_fptr (n := 0) rfl cs
@[go_sem high] theorem fv_18_0 (cs : List AV) : aField Tryz.prog 18 (.agg cs) 0 = aPart Tryz.prog 17 cs 0 := field_agg rfl cs
@[go_sem high] theorem fa_19_0 (id g i c : Nat) : aFieldAddr Tryz.prog 19 (.ptr id g i c) 0 = some (True, .ptr id g i (c + 0)) := fieldAddr_ptr (n := 0) rfl id g i c
@[go_sem high] theorem ff_19_0 (cs : List AV) : aFieldAddr Tryz.prog 19 (.fptr cs) 0 = some (0 ≤ cs.length, .fptr (cs.drop 0)) := fieldAddr_fptr (n := 0) rfl cs
@[go_sem high] theorem fv_19_0 (cs : List AV) : aField Tryz.prog 19 (.agg cs) 0 = aPart Tryz.prog 17 cs 0 := field_agg rfl cs
@[go_sem high] theorem fa_24_0 (id g i c : Nat) : aFieldAddr Tryz.prog 24 (.ptr id g i c) 0 = some (True, .ptr id g i (c + 0)) := fieldAddr_ptr (n := 0) rfl id g i c
@[go_sem high] theorem ff_24_0 (cs : List AV) : aFieldAddr Tryz.prog 24 (.fptr cs) 0 = some (0 ≤ cs.length, .fptr (cs.drop 0)) := fieldAddr_fptr (n := 0) rfl cs
@[go_sem high] theorem fv_24_0 (cs : List AV) : aField Tryz.prog 24 (.agg cs) 0 = aPart Tryz.prog 9 cs 0 := field_agg rfl cs
@[go_sem high] theorem fa_24_1 (id g i c : Nat) : aFieldAddr Tryz.prog 24 (.ptr id g i c) 1 = some (True, .ptr id g i (c + 1)) := fieldAddr_ptr (n := 0) rfl id g i c
@[go_sem high] theorem ff_24_1 (cs : List AV) : aFieldAddr Tryz.prog 24 (.fptr cs) 1 = some (1 ≤ cs.length, .fptr (cs.drop 1)) := fieldAddr_fptr (n := 0) rfl cs
@[go_sem high] theorem fv_24_1 (cs : List AV) : aField Tryz.prog 24 (.agg cs) 1 = aPart Tryz.prog 22 cs 1 := field_agg rfl cs
@[go_sem high] theorem fa_24_2 (id g i c : Nat) : aFieldAddr Tryz.prog 24 (.ptr id g i c) 2 = some (True, .ptr id g i (c + 2)) := fieldAddr_ptr (n := 0) rfl id g i c
@[go_sem high] theorem ff_24_2 (cs : List AV) : aFieldAddr Tryz.prog 24 (.fptr cs) 2 = some (2 ≤ cs.length, .fptr (cs.drop 2)) := fieldAddr_fptr (n := 0) rfl cs
@[go_sem high] theorem fv_24_2 (cs : List AV) : aField Tryz.prog 24 (.agg cs) 2 = aPart Tryz.prog 23 cs 2 := field_agg rfl cs
@[go_sem high] theorem fa_25_0 (id g i c : Nat) : aFieldAddr Tryz.prog 25 (.ptr id g i c) 0 = some (True, .ptr id g i (c + 0)) := fieldAddr_ptr (n := 0) rfl id g i c
@[go_sem high] theorem ff_25_0 (cs : List AV) : aFieldAddr Tryz.prog 25 (.fptr cs) 0 = some (0 ≤ cs.length, .fptr (cs.drop 0)) := fieldAddr_fptr (n := 0) rfl cs
@[go_sem high] theorem fv_25_0 (cs : List AV) : aField Tryz.prog 25 (.agg cs) 0 = aPart Tryz.prog 9 cs 0 := field_agg rfl cs
@[go_sem high] theorem fa_25_1 (id g i c : Nat) : aFieldAddr Tryz.prog 25 (.ptr id g i c) 1 = some (True, .ptr id g i (c + 1)) := fieldAddr_ptr (n := 0) rfl id g i c
@[go_sem high] theorem ff_25_1 (cs : List AV) : aFieldAddr Tryz.prog 25 (.fptr cs) 1 = some (1 ≤ cs.length, .fptr (cs.drop 1)) := fieldAddr_fptr (n := 0) rfl cs
@[go_sem high] theorem fv_25_1 (cs : List AV) : aField Tryz.prog 25 (.agg cs) 1 = aPart Tryz.prog 22 cs 1 := field_agg rfl cs
@[go_sem high] theorem fa_25_2 (id g i c : Nat) : aFieldAddr Tryz.prog 25 (.ptr id g i c) 2 = some (True, .ptr id g i (c + 2)) := fieldAddr_ptr (n := 0) rfl id g i c
@[go_sem high] theorem ff_25_2 (cs : List AV) : aFieldAddr Tryz.prog 25 (.fptr cs) 2 = some (2 ≤ cs.length, .fptr (cs.drop 2)) := fieldAddr_fptr (n := 0) rfl cs
@[go_sem high] theorem fv_25_2 (cs : List AV) : aField Tryz.prog 25 (.agg cs) 2 = aPart Tryz.prog 23 cs 2 := field_agg rfl cs
@[go_sem high] theorem fa_39_0 (id g i c : Nat) : aFieldAddr Tryz.prog 39 (.ptr id g i c) 0 = some (True, .ptr id g i (c + 0)) := fieldAddr_ptr (n := 0) rfl id g i c
@[go_sem high] theorem ff_39_0 (cs : List AV) : aFieldAddr Tryz.prog 39 (.fptr cs) 0 = some (0 ≤ cs.length, .fptr (cs.drop 0)) := fieldAddr_fptr (n := 0) rfl cs
@[go_sem high] theorem fv_39_0 (cs : List AV) : aField Tryz.prog 39 (.agg cs) 0 = aPart Tryz.prog 9 cs 0 := field_agg rfl cs
@[go_sem high] theorem fa_39_1 (id g i c : Nat) : aFieldAddr Tryz.prog 39 (.ptr id g i c) 1 = some (True, .ptr id g i (c + 1)) := fieldAddr_ptr (n := 0) rfl id g i c
@[go_sem high] theorem ff_39_1 (cs : List AV) : aFieldAddr Tryz.prog 39 (.fptr cs) 1 = some (1 ≤ cs.length, .fptr (cs.drop 1)) := fieldAddr_fptr (n := 0) rfl cs
@[go_sem high] theorem fv_39_1 (cs : List AV) : aField Tryz.prog 39 (.agg cs) 1 = aPart Tryz.prog 38 cs 1 := field_agg rfl cs
@[go_sem high] theorem fa_39_2 (id g i c : Nat) : aFieldAddr Tryz.prog 39 (.ptr id g i c) 2 = some (True, .ptr id g i (c + 2)) := fieldAddr_ptr (n := 0) rfl id g i c
@[go_sem high] theorem ff_39_2 (cs : List AV) : aFieldAddr Tryz.prog 39 (.fptr cs) 2 = some (2 ≤ cs.length, .fptr (cs.drop 2)) := fieldAddr_fptr (n := 0) rfl cs
@[go_sem high] theorem fv_39_2 (cs : List AV) : aField Tryz.prog 39 (.agg cs) 2 = aPart Tryz.prog 9 cs 2 := field_agg rfl cs
@[go_sem high] theorem fa_40_0 (id g i c : Nat) : aFieldAddr Tryz.prog 40 (.ptr id g i c) 0 = some (True, .ptr id g i (c + 0)) := fieldAddr_ptr (n := 0) rfl id g i c
@[go_sem high] theorem ff_40_0 (cs : List AV) : aFieldAddr Tryz.prog 40 (.fptr cs) 0 = some (0 ≤ cs.length, .fptr (cs.drop 0)) := fieldAddr_fptr (n := 0) rfl cs
@[go_sem high] theorem fv_40_0 (cs : List AV) : aField Tryz.prog 40 (.agg cs) 0 = aPart Tryz.prog 9 cs 0 := field_agg rfl cs
@[go_sem high] theorem fa_40_1 (id g i c : Nat) : aFieldAddr Tryz.prog 40 (.ptr id g i c) 1 = some (True, .ptr id g i (c + 1)) := fieldAddr_ptr (n := 0) rfl id g i c
@[go_sem high] theorem ff_40_1 (cs : List AV) : aFieldAddr Tryz.prog 40 (.fptr cs) 1 = some (1 ≤ cs.length, .fptr (cs.drop 1)) := fieldAddr_fptr (n := 0) rfl cs
@[go_sem high] theorem fv_40_1 (cs : List AV) : aField Tryz.prog 40 (.agg cs) 1 = aPart Tryz.prog 38 cs 1 := field_agg rfl cs
@[go_sem high] theorem fa_40_2 (id g i c : Nat) : aFieldAddr Tryz.prog 40 (.ptr id g i c) 2 = some (True, .ptr id g i (c + 2)) := fieldAddr_ptr (n := 0) rfl id g i c
@[go_sem high] theorem ff_40_2 (cs : List AV) : aFieldAddr Tryz.prog 40 (.fptr cs) 2 = some (2 ≤ cs.length, .fptr (cs.drop 2)) := fieldAddr_fptr (n := 0) rfl cs
@[go_sem high] theorem fv_40_2 (cs : List AV) : aField Tryz.prog 40 (.agg cs) 2 = aPart Tryz.prog 9 cs 2 := field_agg rfl cs
@[go_sem high] theorem fa_55_0 (id g i c : Nat) : aFieldAddr Tryz.prog 55 (.ptr id g i c) 0 = some (True, .ptr id g i (c + 0)) := fieldAddr_ptr (n := 0) rfl id g i c
@[go_sem high] theorem ff_55_0 (cs : List AV) : aFieldAddr Tryz.prog 55 (.fptr cs) 0 = some (0 ≤ cs.length, .fptr (cs.drop 0)) := fieldAddr_fptr (n := 0) rfl cs
@[go_sem high] theorem fv_55_0 (cs : List AV) : aField Tryz.prog 55 (.agg cs) 0 = aPart Tryz.prog 2 cs 0 := field_agg rfl cs
@[go_sem high] theorem fa_55_1 (id g i c : Nat) : aFieldAddr Tryz.prog 55 (.ptr id g i c) 1 = some (True, .ptr id g i (c + 1)) := fieldAddr_ptr (n := 0) rfl id g i c
@[go_sem high] theorem ff_55_1 (cs : List AV) : aFieldAddr Tryz.prog 55 (.fptr cs) 1 = some (1 ≤ cs.length, .fptr (cs.drop 1)) := fieldAddr_fptr (n := 0) rfl cs
@[go_sem high] theorem fv_55_1 (cs : List AV) : aField Tryz.prog 55 (.agg cs) 1 = aPart Tryz.prog 4 cs 1 := field_agg rfl cs
@[go_sem high] theorem fa_55_2 (id g i c : Nat) : aFieldAddr Tryz.prog 55 (.ptr id g i c) 2 = some (True, .ptr id g i (c + 2)) := fieldAddr_ptr (n := 0) rfl id g i c
@[go_sem high] theorem ff_55_2 (cs : List AV) : aFieldAddr Tryz.prog 55 (.fptr cs) 2 = some (2 ≤ cs.length, .fptr (cs.drop 2)) := fieldAddr_fptr (n := 0) rfl cs
@[go_sem high] theorem fv_55_2 (cs : List AV) : aField Tryz.prog 55 (.agg cs) 2 = aPart Tryz.prog 4 cs 2 := field_agg rfl cs
@[go_sem] theorem fld_56_0 : fldOf Tryz.prog 56 0 = some (0, 1) := rfl
@[go_sem high] theorem fa_56_0 (id g i c : Nat) : aFieldAddr Tryz.prog 56 (.ptr id g i c) 0 = some (True, .ptr id g i (c + 0)) := fieldAddr_ptr (n := 0) rfl id g i c
@[go_sem high] theorem ff_56_0 (cs : List AV) : aFieldAddr Tryz.prog 56 (.fptr cs) 0 = some (0 ≤ cs.length, .fptr (cs.drop 0)) := fieldAddr_fptr (n := 0) rfl cs
@[go_sem high] theorem fv_56_0 (cs : List AV) : aField Tryz.prog 56 (.agg cs) 0 = aPart Tryz.prog 2 cs 0 := field_agg rfl cs
@[go_sem] theorem fld_56_1 : fldOf Tryz.prog 56 1 = some (1, 1) := rfl
@[go_sem high] theorem fa_56_1 (id g i c : Nat) : aFieldAddr Tryz.prog 56 (.ptr id g i c) 1 = some (True, .ptr id g i (c + 1)) := fieldAddr_ptr (n := 0) rfl id g i c
@[go_sem high] theorem ff_56_1 (cs : List AV) : aFieldAddr Tryz.prog 56 (.fptr cs) 1 = some (1 ≤ cs.length, .fptr (cs.drop 1)) := fieldAddr_fptr (n := 0) rfl cs
@[go_sem high] theorem fv_56_1 (cs : List AV) : aField Tryz.prog 56 (.agg cs) 1 = aPart Tryz.prog 4 cs 1 := field_agg rfl cs
@[go_sem] theorem fld_56_2 : fldOf Tryz.prog 56 2 = some (2, 1) := rfl
@[go_sem high] theorem fa_56_2 (id g i c : Nat) : aFieldAddr Tryz.prog 56 (.ptr id g i c) 2 = some (True, .ptr id g i (c + 2)) := fieldAddr_ptr (n := 0) rfl id g i c
@[go_sem high] theorem ff_56_2 (cs : List AV) : aFieldAddr Tryz.prog 56 (.fptr cs) 2 = some (2 ≤ cs.length, .fptr (cs.drop 2)) := fieldAddr_fptr (n := 0) rfl cs
@[go_sem high] theorem fv_56_2 (cs : List AV) : aField Tryz.prog 56 (.agg cs) 2 = aPart Tryz.prog 4 cs 2 := field_agg rfl cs
@[go_sem high] theorem fa_66_0 (id g i c : Nat) : aFieldAddr Tryz.prog 66 (.ptr id g i c) 0 = some (True, .ptr id g i (c + 0)) := fieldAddr_ptr (n := 2) rfl id g i c
@[go_sem high] theorem ff_66_0 (cs : List AV) : aFieldAddr Tryz.prog 66 (.fptr cs) 0 = some (0 ≤ cs.length, .fptr (cs.drop 0)) := fieldAddr_fptr (n := 2) rfl cs
@[go_sem high] theorem fv_66_0 (cs : List AV) : aField Tryz.prog 66 (.agg cs) 0 = aPart Tryz.prog 56 cs 0 := field_agg rfl cs
@[go_sem high] theorem fa_66_1 (id g i c : Nat) : aFieldAddr Tryz.prog 66 (.ptr id g i c) 1 = some (True, .ptr id g i (c + 3)) := fieldAddr_ptr (n := 0) rfl id g i c
@[go_sem high] theorem ff_66_1 (cs : List AV) : aFieldAddr Tryz.prog 66 (.fptr cs) 1 = some (3 ≤ cs.length, .fptr (cs.drop 3)) := fieldAddr_fptr (n := 0) rfl cs
@[go_sem high] theorem fv_66_1 (cs : List AV) : aField Tryz.prog 66 (.agg cs) 1 = aPart Tryz.prog 2 cs 3 := field_agg rfl cs
@[go_sem] theorem fld_67_0 : fldOf Tryz.prog 67 0 = some (0, 3) := rfl
@[go_sem high] theorem fa_67_0 (id g i c : Nat) : aFieldAddr Tryz.prog 67 (.ptr id g i c) 0 = some (True, .ptr id g i (c + 0)) := fieldAddr_ptr (n := 2) rfl id g i c
@[go_sem high] theorem ff_67_0 (cs : List AV) : aFieldAddr Tryz.prog 67 (.fptr cs) 0 = some (0 ≤ cs.length, .fptr (cs.drop 0)) := fieldAddr_fptr (n := 2) rfl cs
@[go_sem high] theorem fv_67_0 (cs : List AV) : aField Tryz.prog 67 (.agg cs) 0 = aPart Tryz.prog 56 cs 0 := field_agg rfl cs
@[go_sem] theorem fld_67_1 : fldOf Tryz.prog 67 1 = some (3, 1) := rfl
@[go_sem high] theorem fa_67_1 (id g i c : Nat) : aFieldAddr Tryz.prog 67 (.ptr id g i c) 1 = some (True, .ptr id g i (c + 3)) := fieldAddr_ptr (n := 0) rfl id g i c
@[go_sem high] theorem ff_67_1 (cs : List AV) : aFieldAddr Tryz.prog 67 (.fptr cs) 1 = some (3 ≤ cs.length, .fptr (cs.drop 3)) := fieldAddr_fptr (n := 0) rfl cs
@[go_sem high] theorem fv_67_1 (cs : List AV) : aField Tryz.prog 67 (.agg cs) 1 = aPart Tryz.prog 2 cs 3 := field_agg rfl cs
@[go_sem high] theorem fa_89_0 (id g i c : Nat) : aFieldAddr Tryz.prog 89 (.ptr id g i c) 0 = some (True, .ptr id g i (c + 0)) := fieldAddr_ptr (n := 0) rfl id g i c
@[go_sem high] theorem ff_89_0 (cs : List AV) : aFieldAddr Tryz.prog 89 (.fptr cs) 0 = some (0 ≤ cs.length, .fptr (cs.drop 0)) := fieldAddr_fptr (n := 0) rfl cs
@[go_sem high] theorem fv_89_0 (cs : List AV) : aField Tryz.prog 89 (.agg cs) 0 = aPart Tryz.prog 23 cs 0 := field_agg rfl cs
@[go_sem high] theorem fa_89_1 (id g i c : Nat) : aFieldAddr Tryz.prog 89 (.ptr id g i c) 1 = some (True, .ptr id g i (c + 1)) := fieldAddr_ptr (n := 0) rfl id g i c
@[go_sem high] theorem ff_89_1 (cs : List AV) : aFieldAddr Tryz.prog 89 (.fptr cs) 1 = some (1 ≤ cs.length, .fptr (cs.drop 1)) := fieldAddr_fptr (n := 0) rfl cs
@[go_sem high] theorem fv_89_1 (cs : List AV) : aField Tryz.prog 89 (.agg cs) 1 = aPart Tryz.prog 4 cs 1 := field_agg rfl cs
@[go_sem high] theorem fa_89_2 (id g i c : Nat) : aFieldAddr Tryz.prog 89 (.ptr id g i c) 2 = some (True, .ptr id g i (c + 2)) := fieldAddr_ptr (n := 2) rfl id g i c
@[go_sem high] theorem ff_89_2 (cs : List AV) : aFieldAddr Tryz.prog 89 (.fptr cs) 2 = some (2 ≤ cs.length, .fptr (cs.drop 2)) := fieldAddr_fptr (n := 2) rfl cs
@[go_sem high] theorem fv_89_2 (cs : List AV) : aField Tryz.prog 89 (.agg cs) 2 = aPart Tryz.prog 25 cs 2 := field_agg rfl cs
@[go_sem high] theorem fa_90_0 (id g i c : Nat) : aFieldAddr Tryz.prog 90 (.ptr id g i c) 0 = some (True, .ptr id g i (c + 0)) := fieldAddr_ptr (n := 0) rfl id g i c
@[go_sem high] theorem ff_90_0 (cs : List AV) : aFieldAddr Tryz.prog 90 (.fptr cs) 0 = some (0 ≤ cs.length, .fptr (cs.drop 0)) := fieldAddr_fptr (n := 0) rfl cs
@[go_sem high] theorem fv_90_0 (cs : List AV) : aField Tryz.prog 90 (.agg cs) 0 = aPart Tryz.prog 23 cs 0 := field_agg rfl cs
@[go_sem high] theorem fa_90_1 (id g i c : Nat) : aFieldAddr Tryz.prog 90 (.ptr id g i c) 1 = some (True, .ptr id g i (c + 1)) := fieldAddr_ptr (n := 0) rfl id g i c
@[go_sem high] theorem ff_90_1 (cs : List AV) : aFieldAddr Tryz.prog 90 (.fptr cs) 1 = some (1 ≤ cs.length, .fptr (cs.drop 1)) := fieldAddr_fptr (n := 0) rfl cs
@[go_sem high] theorem fv_90_1 (cs : List AV) : aField Tryz.prog 90 (.agg cs) 1 = aPart Tryz.prog 4 cs 1 := field_agg rfl cs
@[go_sem high] theorem fa_90_2 (id g i c : Nat) : aFieldAddr Tryz.prog 90 (.ptr id g i c) 2 = some (True, .ptr id g i (c + 2)) := fieldAddr_ptr (n := 2) rfl id g i c
@[go_sem high] theorem ff_90_2 (cs : List AV) : aFieldAddr Tryz.prog 90 (.fptr cs) 2 = some (2 ≤ cs.length, .fptr (cs.drop 2)) := fieldAddr_fptr (n := 2) rfl cs
@[go_sem high] theorem fv_90_2 (cs : List AV) : aField Tryz.prog 90 (.agg cs) 2 = aPart Tryz.prog 25 cs 2 := field_agg rfl cs
@[go_sem high] theorem fa_111_0 (id g i c : Nat) : aFieldAddr Tryz.prog 111 (.ptr id g i c) 0 = some (True, .ptr id g i (c + 0)) := fieldAddr_ptr (n := 0) rfl id g i c
@[go_sem high] theorem ff_111_0 (cs : List AV) : aFieldAddr Tryz.prog 111 (.fptr cs) 0 = some (0 ≤ cs.length, .fptr (cs.drop 0)) := fieldAddr_fptr (n := 0) rfl cs
@[go_sem high] theorem fv_111_0 (cs : List AV) : aField Tryz.prog 111 (.agg cs) 0 = aPart Tryz.prog 110 cs 0 := field_agg rfl cs
@[go_sem high] theorem fa_111_1 (id g i c : Nat) : aFieldAddr Tryz.prog 111 (.ptr id g i c) 1 = some (True, .ptr id g i (c + 1)) := fieldAddr_ptr (n := 0) rfl id g i c
@[go_sem high] theorem ff_111_1 (cs : List AV) : aFieldAddr Tryz.prog 111 (.fptr cs) 1 = some (1 ≤ cs.length, .fptr (cs.drop 1)) := fieldAddr_fptr (n := 0) rfl cs
@[go_sem high] theorem fv_111_1 (cs : List AV) : aField Tryz.prog 111 (.agg cs) 1 = aPart Tryz.prog 36 cs 1 := field_agg rfl cs
@[go_sem] theorem fld_112_0 : fldOf Tryz.prog 112 0 = some (0, 1) := rfl
@[go_sem high] theorem fa_112_0 (id g i c : Nat) : aFieldAddr Tryz.prog 112 (.ptr id g i c) 0 = some (True, .ptr id g i (c + 0)) := fieldAddr_ptr (n := 0) rfl id g i c
@[go_sem high] theorem ff_112_0 (cs : List AV) : aFieldAddr Tryz.prog 112 (.fptr cs) 0 = some (0 ≤ cs.length, .fptr (cs.drop 0)) := fieldAddr_fptr (n := 0) rfl cs
@[go_sem high] theorem fv_112_0 (cs : List AV) : aField Tryz.prog 112 (.agg cs) 0 = aPart Tryz.prog 110 cs 0 := field_agg rfl cs
@[go_sem] theorem fld_112_1 : fldOf Tryz.prog 112 1 = some (1, 1) := rfl
@[go_sem high] theorem fa_112_1 (id g i c : Nat) : aFieldAddr Tryz.prog 112 (.ptr id g i c) 1 = some (True, .ptr id g i (c + 1)) := fieldAddr_ptr (n := 0) rfl id g i c
@[go_sem high] theorem ff_112_1 (cs : List AV) : aFieldAddr Tryz.prog 112 (.fptr cs) 1 = some (1 ≤ cs.length, .fptr (cs.drop 1)) := fieldAddr_fptr (n := 0) rfl cs
@[go_sem high] theorem fv_112_1 (cs : List AV) : aField Tryz.prog 112 (.agg cs) 1 = aPart Tryz.prog 36 cs 1 := field_agg rfl cs
@[go_sem high] theorem fa_131_0 (id g i c : Nat) : aFieldAddr Tryz.prog 131 (.ptr id g i c) 0 = some (True, .ptr id g i (c + 0)) := fieldAddr_ptr (n := 0) rfl id g i c
@[go_sem high] theorem ff_131_0 (cs : List AV) : aFieldAddr Tryz.prog 131 (.fptr cs) 0 = some (0 ≤ cs.length, .fptr (cs.drop 0)) := fieldAddr_fptr (n := 0) rfl cs
@[go_sem high] theorem fv_131_0 (cs : List AV) : aField Tryz.prog 131 (.agg cs) 0 = aPart Tryz.prog 9 cs 0 := field_agg rfl cs
@[go_sem high] theorem fa_131_1 (id g i c : Nat) : aFieldAddr Tryz.prog 131 (.ptr id g i c) 1 = some (True, .ptr id g i (c + 1)) := fieldAddr_ptr (n := 0) rfl id g i c
@[go_sem high] theorem ff_131_1 (cs : List AV) : aFieldAddr Tryz.prog 131 (.fptr cs) 1 = some (1 ≤ cs.length, .fptr (cs.drop 1)) := fieldAddr_fptr (n := 0) rfl cs
@[go_sem high] theorem fv_131_1 (cs : List AV) : aField Tryz.prog 131 (.agg cs) 1 = aPart Tryz.prog 81 cs 1 := field_agg rfl cs
@[go_sem high] theorem fa_132_0 (id g i c : Nat) : aFieldAddr Tryz.prog 132 (.ptr id g i c) 0 = some (True, .ptr id g i (c + 0)) := fieldAddr_ptr (n := 0) rfl id g i c
@[go_sem high] theorem ff_132_0 (cs : List AV) : aFieldAddr Tryz.prog 132 (.fptr cs) 0 = some (0 ≤ cs.length, .fptr (cs.drop 0)) := fieldAddr_fptr (n := 0) rfl cs
@[go_sem high] theorem fv_132_0 (cs : List AV) : aField Tryz.prog 132 (.agg cs) 0 = aPart Tryz.prog 9 cs 0 := field_agg rfl cs
@[go_sem high] theorem fa_132_1 (id g i c : Nat) : aFieldAddr Tryz.prog 132 (.ptr id g i c) 1 = some (True, .ptr id g i (c + 1)) := fieldAddr_ptr (n := 0) rfl id g i c
@[go_sem high] theorem ff_132_1 (cs : List AV) : aFieldAddr Tryz.prog 132 (.fptr cs) 1 = some (1 ≤ cs.length, .fptr (cs.drop 1)) := fieldAddr_fptr (n := 0) rfl cs
@[go_sem high] theorem fv_132_1 (cs : List AV) : aField Tryz.prog 132 (.agg cs) 1 = aPart Tryz.prog 81 cs 1 := field_agg rfl cs
@[go_sem high] theorem fa_138_0 (id g i c : Nat) : aFieldAddr Tryz.prog 138 (.ptr id g i c) 0 = some (True, .ptr id g i (c + 0)) := fieldAddr_ptr (n := 0) rfl id g i c
@[go_sem high] theorem ff_138_0 (cs : List AV) : aFieldAddr Tryz.prog 138 (.fptr cs) 0 = some (0 ≤ cs.length, .fptr (cs.drop 0)) := fieldAddr_fptr (n := 0) rfl cs
@[go_sem high] theorem fv_138_0 (cs : List AV) : aField Tryz.prog 138 (.agg cs) 0 = aPart Tryz.prog 9 cs 0 := field_agg rfl cs
@[go_sem high] theorem fa_138_1 (id g i c : Nat) : aFieldAddr Tryz.prog 138 (.ptr id g i c) 1 = some (True, .ptr id g i (c + 1)) := fieldAddr_ptr (n := 0) rfl id g i c
@[go_sem high] theorem ff_138_1 (cs : List AV) : aFieldAddr Tryz.prog 138 (.fptr cs) 1 = some (1 ≤ cs.length, .fptr (cs.drop 1)) := fieldAddr_fptr (n := 0) rfl cs
@[go_sem high] theorem fv_138_1 (cs : List AV) : aField Tryz.prog 138 (.agg cs) 1 = aPart Tryz.prog 29 cs 1 := field_agg rfl cs
@[go_sem high] theorem fa_139_0 (id g i c : Nat) : aFieldAddr Tryz.prog 139 (.ptr id g i c) 0 = some (True, .ptr id g i (c + 0)) := fieldAddr_ptr (n := 0) rfl id g i c
@[go_sem high] theorem ff_139_0 (cs : List AV) : aFieldAddr Tryz.prog 139 (.fptr cs) 0 = some (0 ≤ cs.length, .fptr (cs.drop 0)) := fieldAddr_fptr (n := 0) rfl cs
@[go_sem high] theorem fv_139_0 (cs : List AV) : aField Tryz.prog 139 (.agg cs) 0 = aPart Tryz.prog 9 cs 0 := field_agg rfl cs
@[go_sem high] theorem fa_139_1 (id g i c : Nat) : aFieldAddr Tryz.prog 139 (.ptr id g i c) 1 = some (True, .ptr id g i (c + 1)) := fieldAddr_ptr (n := 0) rfl id g i c
@[go_sem high] theorem ff_139_1 (cs : List AV) : aFieldAddr Tryz.prog 139 (.fptr cs) 1 = some (1 ≤ cs.length, .fptr (cs.drop 1)) := fieldAddr_fptr (n := 0) rfl cs
@[go_sem high] theorem fv_139_1 (cs : List AV) : aField Tryz.prog 139 (.agg cs) 1 = aPart Tryz.prog 29 cs 1 := field_agg rfl cs
@[go_sem high] theorem fv_171_0 (cs : List AV) : aField Tryz.prog 171 (.agg cs) 0 = aPart Tryz.prog 169 cs 0 := field_agg rfl cs
@[go_sem high] theorem fa_171_1 (id g i c : Nat) : aFieldAddr Tryz.prog 171 (.ptr id g i c) 1 = some (True, .ptr id g i (c + 0)) := fieldAddr_ptr (n := 0) rfl id g i c
@[go_sem high] theorem ff_171_1 (cs : List AV) : aFieldAddr Tryz.prog 171 (.fptr cs) 1 = some (0 ≤ cs.length, .fptr (cs.drop 0)) := fieldAddr_fptr (n := 0) rfl cs
@[go_sem high] theorem fv_171_1 (cs : List AV) : aField Tryz.prog 171 (.agg cs) 1 = aPart Tryz.prog 170 cs 0 := field_agg rfl cs
@[go_sem high] theorem fv_172_0 (cs : List AV) : aField Tryz.prog 172 (.agg cs) 0 = aPart Tryz.prog 169 cs 0 := field_agg rfl cs
@[go_sem high] theorem fa_172_1 (id g i c : Nat) : aFieldAddr Tryz.prog 172 (.ptr id g i c) 1 = some (True, .ptr id g i (c + 0)) := fieldAddr_ptr (n := 0) rfl id g i c
@[go_sem high] theorem ff_172_1 (cs : List AV) : aFieldAddr Tryz.prog 172 (.fptr cs) 1 = some (0 ≤ cs.length, .fptr (cs.drop 0)) := fieldAddr_fptr (n := 0) rfl cs
@[go_sem high] theorem fv_172_1 (cs : List AV) : aField Tryz.prog 172 (.agg cs) 1 = aPart Tryz.prog 170 cs 0 := field_agg rfl cs
@[go_sem high] theorem fa_173_0 (id g i c : Nat) : aFieldAddr Tryz.prog 173 (.ptr id g i c) 0 = some (True, .ptr id g i (c + 0)) := fieldAddr_ptr (n := 0) rfl id g i c
@[go_sem high] theorem ff_173_0 (cs : List AV) : aFieldAddr Tryz.prog 173 (.fptr cs) 0 = some (0 ≤ cs.length, .fptr (cs.drop 0)) := fieldAddr_fptr (n := 0) rfl cs
@[go_sem high] theorem fv_173_0 (cs : List AV) : aField Tryz.prog 173 (.agg cs) 0 = aPart Tryz.prog 21 cs 0 := field_agg rfl cs
@[go_sem high] theorem fa_173_1 (id g i c : Nat) : aFieldAddr Tryz.prog 173 (.ptr id g i c) 1 = some (True, .ptr id g i (c + 1)) := fieldAddr_ptr (n := 0) rfl id g i c
@[go_sem high] theorem ff_173_1 (cs : List AV) : aFieldAddr Tryz.prog 173 (.fptr cs) 1 = some (1 ≤ cs.length, .fptr (cs.drop 1)) := fieldAddr_fptr (n := 0) rfl cs
@[go_sem high] theorem fv_173_1 (cs : List AV) : aField Tryz.prog 173 (.agg cs) 1 = aPart Tryz.prog 170 cs 1 := field_agg rfl cs
@[go_sem high] theorem fa_174_0 (id g i c : Nat) : aFieldAddr Tryz.prog 174 (.ptr id g i c) 0 = some (True, .ptr id g i (c + 0)) := fieldAddr_ptr (n := 0) rfl id g i c
@[go_sem high] theorem ff_174_0 (cs : List AV) : aFieldAddr Tryz.prog 174 (.fptr cs) 0 = some (0 ≤ cs.length, .fptr (cs.drop 0)) := fieldAddr_fptr (n := 0) rfl cs
@[go_sem high] theorem fv_174_0 (cs : List AV) : aField Tryz.prog 174 (.agg cs) 0 = aPart Tryz.prog 21 cs 0 := field_agg rfl cs
@[go_sem high] theorem fa_174_1 (id g i c : Nat) : aFieldAddr Tryz.prog 174 (.ptr id g i c) 1 = some (True, .ptr id g i (c + 1)) := fieldAddr_ptr (n := 0) rfl id g i c
@[go_sem high] theorem ff_174_1 (cs : List AV) : aFieldAddr Tryz.prog 174 (.fptr cs) 1 = some (1 ≤ cs.length, .fptr (cs.drop 1)) := fieldAddr_fptr (n := 0) rfl cs
@[go_sem high] theorem fv_174_1 (cs : List AV) : aField Tryz.prog 174 (.agg cs) 1 = aPart Tryz.prog 170 cs 1 := field_agg rfl cs
@[go_sem high] theorem fv_175_0 (cs : List AV) : aField Tryz.prog 175 (.agg cs) 0 = aPart Tryz.prog 168 cs 0 := field_agg rfl cs
@[go_sem high] theorem fa_175_1 (id g i c : Nat) : aFieldAddr Tryz.prog 175 (.ptr id g i c) 1 = some (True, .ptr id g i (c + 0)) := fieldAddr_ptr (n := 1) rfl id g i c
@[go_sem high] theorem ff_175_1 (cs : List AV) : aFieldAddr Tryz.prog 175 (.fptr cs) 1 = some (0 ≤ cs.length, .fptr (cs.drop 0)) := fieldAddr_fptr (n := 1) rfl cs
@[go_sem high] theorem fv_175_1 (cs : List AV) : aField Tryz.prog 175 (.agg cs) 1 = aPart Tryz.prog 174 cs 0 := field_agg rfl cs
@[go_sem high] theorem fv_176_0 (cs : List AV) : aField Tryz.prog 176 (.agg cs) 0 = aPart Tryz.prog 168 cs 0 := field_agg rfl cs
@[go_sem high] theorem fa_176_1 (id g i c : Nat) : aFieldAddr Tryz.prog 176 (.ptr id g i c) 1 = some (True, .ptr id g i (c + 0)) := fieldAddr_ptr (n := 1) rfl id g i c
@[go_sem high] theorem ff_176_1 (cs : List AV) : aFieldAddr Tryz.prog 176 (.fptr cs) 1 = some (0 ≤ cs.length, .fptr (cs.drop 0)) := fieldAddr_fptr (n := 1) rfl cs
@[go_sem high] theorem fv_176_1 (cs : List AV) : aField Tryz.prog 176 (.agg cs) 1 = aPart Tryz.prog 174 cs 0 := field_agg rfl cs
@[go_sem high] theorem fv_177_0 (cs : List AV) : aField Tryz.prog 177 (.agg cs) 0 = aPart Tryz.prog 168 cs 0 := field_agg rfl cs
@[go_sem high] theorem fa_177_1 (id g i c : Nat) : aFieldAddr Tryz.prog 177 (.ptr id g i c) 1 = some (True, .ptr id g i (c + 0)) := fieldAddr_ptr (n := 0) rfl id g i c
@[go_sem high] theorem ff_177_1 (cs : List AV) : aFieldAddr Tryz.prog 177 (.fptr cs) 1 = some (0 ≤ cs.length, .fptr (cs.drop 0)) := fieldAddr_fptr (n := 0) rfl cs
@[go_sem high] theorem fv_177_1 (cs : List AV) : aField Tryz.prog 177 (.agg cs) 1 = aPart Tryz.prog 172 cs 0 := field_agg rfl cs
@[go_sem high] theorem fa_177_2 (id g i c : Nat) : aFieldAddr Tryz.prog 177 (.ptr id g i c) 2 = some (True, .ptr id g i (c + 1)) := fieldAddr_ptr (n := 1) rfl id g i c
@[go_sem high] theorem ff_177_2 (cs : List AV) : aFieldAddr Tryz.prog 177 (.fptr cs) 2 = some (1 ≤ cs.length, .fptr (cs.drop 1)) := fieldAddr_fptr (n := 1) rfl cs
@[go_sem high] theorem fv_177_2 (cs : List AV) : aField Tryz.prog 177 (.agg cs) 2 = aPart Tryz.prog 176 cs 1 := field_agg rfl cs
@[go_sem high] theorem fv_178_0 (cs : List AV) : aField Tryz.prog 178 (.agg cs) 0 = aPart Tryz.prog 168 cs 0 := field_agg rfl cs
@[go_sem high] theorem fa_178_1 (id g i c : Nat) : aFieldAddr Tryz.prog 178 (.ptr id g i c) 1 = some (True, .ptr id g i (c + 0)) := fieldAddr_ptr (n := 0) rfl id g i c
@[go_sem high] theorem ff_178_1 (cs : List AV) : aFieldAddr Tryz.prog 178 (.fptr cs) 1 = some (0 ≤ cs.length, .fptr (cs.drop 0)) := fieldAddr_fptr (n := 0) rfl cs
@[go_sem high] theorem fv_178_1 (cs : List AV) : aField Tryz.prog 178 (.agg cs) 1 = aPart Tryz.prog 172 cs 0 := field_agg rfl cs
@[go_sem high] theorem fa_178_2 (id g i c : Nat) : aFieldAddr Tryz.prog 178 (.ptr id g i c) 2 = some (True, .ptr id g i (c + 1)) := fieldAddr_ptr (n := 1) rfl id g i c
@[go_sem high] theorem ff_178_2 (cs : List AV) : aFieldAddr Tryz.prog 178 (.fptr cs) 2 = some (1 ≤ cs.length, .fptr (cs.drop 1)) := fieldAddr_fptr (n := 1) rfl cs
@[go_sem high] theorem fv_178_2 (cs : List AV) : aField Tryz.prog 178 (.agg cs) 2 = aPart Tryz.prog 176 cs 1 := field_agg rfl cs
@[go_sem high] theorem fa_181_0 (id g i c : Nat) : aFieldAddr Tryz.prog 181 (.ptr id g i c) 0 = some (True, .ptr id g i (c + 0)) := fieldAddr_ptr (n := 2) rfl id g i c
@[go_sem high] theorem ff_181_0 (cs : List AV) : aFieldAddr Tryz.prog 181 (.fptr cs) 0 = some (0 ≤ cs.length, .fptr (cs.drop 0)) := fieldAddr_fptr (n := 2) rfl cs
@[go_sem high] theorem fv_181_0 (cs : List AV) : aField Tryz.prog 181 (.agg cs) 0 = aPart Tryz.prog 178 cs 0 := field_agg rfl cs
@[go_sem high] theorem fa_181_1 (id g i c : Nat) : aFieldAddr Tryz.prog 181 (.ptr id g i c) 1 = some (True, .ptr id g i (c + 3)) := fieldAddr_ptr (n := 0) rfl id g i c
@[go_sem high] theorem ff_181_1 (cs : List AV) : aFieldAddr Tryz.prog 181 (.fptr cs) 1 = some (3 ≤ cs.length, .fptr (cs.drop 3)) := fieldAddr_fptr (n := 0) rfl cs
@[go_sem high] theorem fv_181_1 (cs : List AV) : aField Tryz.prog 181 (.agg cs) 1 = aPart Tryz.prog 180 cs 3 := field_agg rfl cs
@[go_sem high] theorem fa_181_2 (id g i c : Nat) : aFieldAddr Tryz.prog 181 (.ptr id g i c) 2 = some (True, .ptr id g i (c + 4)) := fieldAddr_ptr (n := 0) rfl id g i c
@[go_sem high] theorem ff_181_2 (cs : List AV) : aFieldAddr Tryz.prog 181 (.fptr cs) 2 = some (4 ≤ cs.length, .fptr (cs.drop 4)) := fieldAddr_fptr (n := 0) rfl cs
@[go_sem high] theorem fv_181_2 (cs : List AV) : aField Tryz.prog 181 (.agg cs) 2 = aPart Tryz.prog 81 cs 4 := field_agg rfl cs
@[go_sem high] theorem fa_182_0 (id g i c : Nat) : aFieldAddr Tryz.prog 182 (.ptr id g i c) 0 = some (True, .ptr id g i (c + 0)) := fieldAddr_ptr (n := 2) rfl id g i c
@[go_sem high] theorem ff_182_0 (cs : List AV) : aFieldAddr Tryz.prog 182 (.fptr cs) 0 = some (0 ≤ cs.length, .fptr (cs.drop 0)) := fieldAddr_fptr (n := 2) rfl cs
@[go_sem high] theorem fv_182_0 (cs : List AV) : aField Tryz.prog 182 (.agg cs) 0 = aPart Tryz.prog 178 cs 0 := field_agg rfl cs
@[go_sem high] theorem fa_182_1 (id g i c : Nat) : aFieldAddr Tryz.prog 182 (.ptr id g i c) 1 = some (True, .ptr id g i (c + 3)) := fieldAddr_ptr (n := 0) rfl id g i c
@[go_sem high] theorem ff_182_1 (cs : List AV) : aFieldAddr Tryz.prog 182 (.fptr cs) 1 = some (3 ≤ cs.length, .fptr (cs.drop 3)) := fieldAddr_fptr (n := 0) rfl cs
@[go_sem high] theorem fv_182_1 (cs : List AV) : aField Tryz.prog 182 (.agg cs) 1 = aPart Tryz.prog 180 cs 3 := field_agg rfl cs
@[go_sem high] theorem fa_182_2 (id g i c : Nat) : aFieldAddr Tryz.prog 182 (.ptr id g i c) 2 = some (True, .ptr id g i (c + 4)) := fieldAddr_ptr (n := 0) rfl id g i c
@[go_sem high] theorem ff_182_2 (cs : List AV) : aFieldAddr Tryz.prog 182 (.fptr cs) 2 = some (4 ≤ cs.length, .fptr (cs.drop 4)) := fieldAddr_fptr (n := 0) rfl cs
@[go_sem high] theorem fv_182_2 (cs : List AV) : aField Tryz.prog 182 (.agg cs) 2 = aPart Tryz.prog 81 cs 4 := field_agg rfl cs
@[go_sem high] theorem fa_245_0 (id g i c : Nat) : aFieldAddr Tryz.prog 245 (.ptr id g i c) 0 = some (True, .ptr id g i (c + 0)) := fieldAddr_ptr (n := 255) rfl id g i c
@[go_sem high] theorem ff_245_0 (cs : List AV) : aFieldAddr Tryz.prog 245 (.fptr cs) 0 = some (0 ≤ cs.length, .fptr (cs.drop 0)) := fieldAddr_fptr (n := 255) rfl cs
@[go_sem high] theorem fv_245_0 (cs : List AV) : aField Tryz.prog 245 (.agg cs) 0 = aPart Tryz.prog 244 cs 0 := field_agg rfl cs
@[go_sem high] theorem fa_245_1 (id g i c : Nat) : aFieldAddr Tryz.prog 245 (.ptr id g i c) 1 = some (True, .ptr id g i (c + 256)) := fieldAddr_ptr (n := 0) rfl id g i c
@[go_sem high] theorem ff_245_1 (cs : List AV) : aFieldAddr Tryz.prog 245 (.fptr cs) 1 = some (256 ≤ cs.length, .fptr (cs.drop 256)) := fieldAddr_fptr (n := 0) rfl cs
@[go_sem high] theorem fv_245_1 (cs : List AV) : aField Tryz.prog 245 (.agg cs) 1 = aPart Tryz.prog 81 cs 256 := field_agg rfl cs
@[go_sem high] theorem fa_246_0 (id g i c : Nat) : aFieldAddr Tryz.prog 246 (.ptr id g i c) 0 = some (True, .ptr id g i (c + 0)) := fieldAddr_ptr (n := 255) rfl id g i c
@[go_sem high] theorem ff_246_0 (cs : List AV) : aFieldAddr Tryz.prog 246 (.fptr cs) 0 = some (0 ≤ cs.length, .fptr (cs.drop 0)) := fieldAddr_fptr (n := 255) rfl cs
@[go_sem high] theorem fv_246_0 (cs : List AV) : aField Tryz.prog 246 (.agg cs) 0 = aPart Tryz.prog 244 cs 0 := field_agg rfl cs
@[go_sem high] theorem fa_246_1 (id g i c : Nat) : aFieldAddr Tryz.prog 246 (.ptr id g i c) 1 = some (True, .ptr id g i (c + 256)) := fieldAddr_ptr (n := 0) rfl id g i c
@[go_sem high] theorem ff_246_1 (cs : List AV) : aFieldAddr Tryz.prog 246 (.fptr cs) 1 = some (256 ≤ cs.length, .fptr (cs.drop 256)) := fieldAddr_fptr (n := 0) rfl cs
@[go_sem high] theorem fv_246_1 (cs : List AV) : aField Tryz.prog 246 (.agg cs) 1 = aPart Tryz.prog 81 cs 256 := field_agg rfl cs
@[go_sem high] theorem fa_248_0 (id g i c : Nat) : aFieldAddr Tryz.prog 248 (.ptr id g i c) 0 = some (True, .ptr id g i (c + 0)) := fieldAddr_ptr (n := 0) rfl id g i c
@[go_sem high] theorem ff_248_0 (cs : List AV) : aFieldAddr Tryz.prog 248 (.fptr cs) 0 = some (0 ≤ cs.length, .fptr (cs.drop 0)) := fieldAddr_fptr (n := 0) rfl cs
@[go_sem high] theorem fv_248_0 (cs : List AV) : aField Tryz.prog 248 (.agg cs) 0 = aPart Tryz.prog 5 cs 0 := field_agg rfl cs
@[go_sem high] theorem fa_248_1 (id g i c : Nat) : aFieldAddr Tryz.prog 248 (.ptr id g i c) 1 = some (True, .ptr id g i (c + 1)) := fieldAddr_ptr (n := 0) rfl id g i c
@[go_sem high] theorem ff_248_1 (cs : List AV) : aFieldAddr Tryz.prog 248 (.fptr cs) 1 = some (1 ≤ cs.length, .fptr (cs.drop 1)) := fieldAddr_fptr (n := 0) rfl cs
@[go_sem high] theorem fv_248_1 (cs : List AV) : aField Tryz.prog 248 (.agg cs) 1 = aPart Tryz.prog 5 cs 1 := field_agg rfl cs
@[go_sem] theorem fld_249_0 : fldOf Tryz.prog 249 0 = some (0, 1) := rfl
@[go_sem high] theorem fa_249_0 (id g i c : Nat) : aFieldAddr Tryz.prog 249 (.ptr id g i c) 0 = some (True, .ptr id g i (c + 0)) := fieldAddr_ptr (n := 0) rfl id g i c
@[go_sem high] theorem ff_249_0 (cs : List AV) : aFieldAddr Tryz.prog 249 (.fptr cs) 0 = some (0 ≤ cs.length, .fptr (cs.drop 0)) := fieldAddr_fptr (n := 0) rfl cs
@[go_sem high] theorem fv_249_0 (cs : List AV) : aField Tryz.prog 249 (.agg cs) 0 = aPart Tryz.prog 5 cs 0 := field_agg rfl cs
@[go_sem] theorem fld_249_1 : fldOf Tryz.prog 249 1 = some (1, 1) := rfl
@[go_sem high] theorem fa_249_1 (id g i c : Nat) : aFieldAddr Tryz.prog 249 (.ptr id g i c) 1 = some (True, .ptr id g i (c + 1)) := fieldAddr_ptr (n := 0) rfl id g i c
@[go_sem high] theorem ff_249_1 (cs : List AV) : aFieldAddr Tryz.prog 249 (.fptr cs) 1 = some (1 ≤ cs.length, .fptr (cs.drop 1)) := fieldAddr_fptr (n := 0) rfl cs
@[go_sem high] theorem fv_249_1 (cs : List AV) : aField Tryz.prog 249 (.agg cs) 1 = aPart Tryz.prog 5 cs 1 := field_agg rfl cs
@[go_sem high] theorem fa_262_0 (id g i c : Nat) : aFieldAddr Tryz.prog 262 (.ptr id g i c) 0 = some (True, .ptr id g i (c + 0)) := fieldAddr_ptr (n := 0) rfl id g i c
@[go_sem high] theorem ff_262_0 (cs : List AV) : aFieldAddr Tryz.prog 262 (.fptr cs) 0 = some (0 ≤ cs.length, .fptr (cs.drop 0)) := fieldAddr_fptr (n := 0) rfl cs
@[go_sem high] theorem fv_262_0 (cs : List AV) : aField Tryz.prog 262 (.agg cs) 0 = aPart Tryz.prog 260 cs 0 := field_agg rfl cs
@[go_sem high] theorem fa_262_1 (id g i c : Nat) : aFieldAddr Tryz.prog 262 (.ptr id g i c) 1 = some (True, .ptr id g i (c + 1)) := fieldAddr_ptr (n := 0) rfl id g i c
@[go_sem high] theorem ff_262_1 (cs : List AV) : aFieldAddr Tryz.prog 262 (.fptr cs) 1 = some (1 ≤ cs.length, .fptr (cs.drop 1)) := fieldAddr_fptr (n := 0) rfl cs
@[go_sem high] theorem fv_262_1 (cs : List AV) : aField Tryz.prog 262 (.agg cs) 1 = aPart Tryz.prog 9 cs 1 := field_agg rfl cs
@[go_sem high] theorem fa_263_0 (id g i c : Nat) : aFieldAddr Tryz.prog 263 (.ptr id g i c) 0 = some (True, .ptr id g i (c + 0)) := fieldAddr_ptr (n := 0) rfl id g i c
@[go_sem high] theorem ff_263_0 (cs : List AV) : aFieldAddr Tryz.prog 263 (.fptr cs) 0 = some (0 ≤ cs.length, .fptr (cs.drop 0)) := fieldAddr_fptr (n := 0) rfl cs
@[go_sem high] theorem fv_263_0 (cs : List AV) : aField Tryz.prog 263 (.agg cs) 0 = aPart Tryz.prog 260 cs 0 := field_agg rfl cs
@[go_sem high] theorem fa_263_1 (id g i c : Nat) : aFieldAddr Tryz.prog 263 (.ptr id g i c) 1 = some (True, .ptr id g i (c + 1)) := fieldAddr_ptr (n := 0) rfl id g i c
@[go_sem high] theorem ff_263_1 (cs : List AV) : aFieldAddr Tryz.prog 263 (.fptr cs) 1 = some (1 ≤ cs.length, .fptr (cs.drop 1)) := fieldAddr_fptr (n := 0) rfl cs
@[go_sem high] theorem fv_263_1 (cs : List AV) : aField Tryz.prog 263 (.agg cs) 1 = aPart Tryz.prog 9 cs 1 := field_agg rfl cs
@[go_sem high] theorem fa_266_0 (id g i c : Nat) : aFieldAddr Tryz.prog 266 (.ptr id g i c) 0 = some (True, .ptr id g i (c + 0)) := fieldAddr_ptr (n := 0) rfl id g i c
@[go_sem high] theorem ff_266_0 (cs : List AV) : aFieldAddr Tryz.prog 266 (.fptr cs) 0 = some (0 ≤ cs.length, .fptr (cs.drop 0)) := fieldAddr_fptr (n := 0) rfl cs
@[go_sem high] theorem fv_266_0 (cs : List AV) : aField Tryz.prog 266 (.agg cs) 0 = aPart Tryz.prog 9 cs 0 := field_agg rfl cs
@[go_sem high] theorem fa_266_1 (id g i c : Nat) : aFieldAddr Tryz.prog 266 (.ptr id g i c) 1 = some (True, .ptr id g i (c + 1)) := fieldAddr_ptr (n := 0) rfl id g i c
@[go_sem high] theorem ff_266_1 (cs : List AV) : aFieldAddr Tryz.prog 266 (.fptr cs) 1 = some (1 ≤ cs.length, .fptr (cs.drop 1)) := fieldAddr_fptr (n := 0) rfl cs
@[go_sem high] theorem fv_266_1 (cs : List AV) : aField Tryz.prog 266 (.agg cs) 1 = aPart Tryz.prog 3 cs 1 := field_agg rfl cs
@[go_sem high] theorem fa_266_2 (id g i c : Nat) : aFieldAddr Tryz.prog 266 (.ptr id g i c) 2 = some (True, .ptr id g i (c + 2)) := fieldAddr_ptr (n := 0) rfl id g i c
@[go_sem high] theorem ff_266_2 (cs : List AV) : aFieldAddr Tryz.prog 266 (.fptr cs) 2 = some (2 ≤ cs.length, .fptr (cs.drop 2)) := fieldAddr_fptr (n := 0) rfl cs
@[go_sem high] theorem fv_266_2 (cs : List AV) : aField Tryz.prog 266 (.agg cs) 2 = aPart Tryz.prog 9 cs 2 := field_agg rfl cs
@[go_sem high] theorem fa_266_3 (id g i c : Nat) : aFieldAddr Tryz.prog 266 (.ptr id g i c) 3 = some (True, .ptr id g i (c + 3)) := fieldAddr_ptr (n := 0) rfl id g i c
@[go_sem high] theorem ff_266_3 (cs : List AV) : aFieldAddr Tryz.prog 266 (.fptr cs) 3 = some (3 ≤ cs.length, .fptr (cs.drop 3)) := fieldAddr_fptr (n := 0) rfl cs
@[go_sem high] theorem fv_266_3 (cs : List AV) : aField Tryz.prog 266 (.agg cs) 3 = aPart Tryz.prog 264 cs 3 := field_agg rfl cs
@[go_sem high] theorem fa_266_4 (id g i c : Nat) : aFieldAddr Tryz.prog 266 (.ptr id g i c) 4 = some (True, .ptr id g i (c + 4)) := fieldAddr_ptr (n := 0) rfl id g i c
@[go_sem high] theorem ff_266_4 (cs : List AV) : aFieldAddr Tryz.prog 266 (.fptr cs) 4 = some (4 ≤ cs.length, .fptr (cs.drop 4)) := fieldAddr_fptr (n := 0) rfl cs
@[go_sem high] theorem fv_266_4 (cs : List AV) : aField Tryz.prog 266 (.agg cs) 4 = aPart Tryz.prog 265 cs 4 := field_agg rfl cs
@[go_sem high] theorem fa_267_0 (id g i c : Nat) : aFieldAddr Tryz.prog 267 (.ptr id g i c) 0 = some (True, .ptr id g i (c + 0)) := fieldAddr_ptr (n := 0) rfl id g i c
@[go_sem high] theorem ff_267_0 (cs : List AV) : aFieldAddr Tryz.prog 267 (.fptr cs) 0 = some (0 ≤ cs.length, .fptr (cs.drop 0)) := fieldAddr_fptr (n := 0) rfl cs
@[go_sem high] theorem fv_267_0 (cs : List AV) : aField Tryz.prog 267 (.agg cs) 0 = aPart Tryz.prog 9 cs 0 := field_agg rfl cs
@[go_sem high] theorem fa_267_1 (id g i c : Nat) : aFieldAddr Tryz.prog 267 (.ptr id g i c) 1 = some (True, .ptr id g i (c + 1)) := fieldAddr_ptr (n := 0) rfl id g i c
@[go_sem high] theorem ff_267_1 (cs : List AV) : aFieldAddr Tryz.prog 267 (.fptr cs) 1 = some (1 ≤ cs.length, .fptr (cs.drop 1)) := fieldAddr_fptr (n := 0) rfl cs
@[go_sem high] theorem fv_267_1 (cs : List AV) : aField Tryz.prog 267 (.agg cs) 1 = aPart Tryz.prog 3 cs 1 := field_agg rfl cs
@[go_sem high] theorem fa_267_2 (id g i c : Nat) : aFieldAddr Tryz.prog 267 (.ptr id g i c) 2 = some (True, .ptr id g i (c + 2)) := fieldAddr_ptr (n := 0) rfl id g i c
@[go_sem high] theorem ff_267_2 (cs : List AV) : aFieldAddr Tryz.prog 267 (.fptr cs) 2 = some (2 ≤ cs.length, .fptr (cs.drop 2)) := fieldAddr_fptr (n := 0) rfl cs
@[go_sem high] theorem fv_267_2 (cs : List AV) : aField Tryz.prog 267 (.agg cs) 2 = aPart Tryz.prog 9 cs 2 := field_agg rfl cs
@[go_sem high] theorem fa_267_3 (id g i c : Nat) : aFieldAddr Tryz.prog 267 (.ptr id g i c) 3 = some (True, .ptr id g i (c + 3)) := fieldAddr_ptr (n := 0) rfl id g i c
@[go_sem high] theorem ff_267_3 (cs : List AV) : aFieldAddr Tryz.prog 267 (.fptr cs) 3 = some (3 ≤ cs.length, .fptr (cs.drop 3)) := fieldAddr_fptr (n := 0) rfl cs
@[go_sem high] theorem fv_267_3 (cs : List AV) : aField Tryz.prog 267 (.agg cs) 3 = aPart Tryz.prog 264 cs 3 := field_agg rfl cs
@[go_sem high] theorem fa_267_4 (id g i c : Nat) : aFieldAddr Tryz.prog 267 (.ptr id g i c) 4 = some (True, .ptr id g i (c + 4)) := fieldAddr_ptr (n := 0) rfl id g i c
@[go_sem high] theorem ff_267_4 (cs : List AV) : aFieldAddr Tryz.prog 267 (.fptr cs) 4 = some (4 ≤ cs.length, .fptr (cs.drop 4)) := fieldAddr_fptr (n := 0) rfl cs
@[go_sem high] theorem fv_267_4 (cs : List AV) : aField Tryz.prog 267 (.agg cs) 4 = aPart Tryz.prog 265 cs 4 := field_agg rfl cs
@[go_sem high] theorem fa_268_0 (id g i c : Nat) : aFieldAddr Tryz.prog 268 (.ptr id g i c) 0 = some (True, .ptr id g i (c + 0)) := fieldAddr_ptr (n := 4) rfl id g i c
@[go_sem high] theorem ff_268_0 (cs : List AV) : aFieldAddr Tryz.prog 268 (.fptr cs) 0 = some (0 ≤ cs.length, .fptr (cs.drop 0)) := fieldAddr_fptr (n := 4) rfl cs
@[go_sem high] theorem fv_268_0 (cs : List AV) : aField Tryz.prog 268 (.agg cs) 0 = aPart Tryz.prog 267 cs 0 := field_agg rfl cs
@[go_sem high] theorem fa_268_1 (id g i c : Nat) : aFieldAddr Tryz.prog 268 (.ptr id g i c) 1 = some (True, .ptr id g i (c + 5)) := fieldAddr_ptr (n := 0) rfl id g i c
@[go_sem high] theorem ff_268_1 (cs : List AV) : aFieldAddr Tryz.prog 268 (.fptr cs) 1 = some (5 ≤ cs.length, .fptr (cs.drop 5)) := fieldAddr_fptr (n := 0) rfl cs
@[go_sem high] theorem fv_268_1 (cs : List AV) : aField Tryz.prog 268 (.agg cs) 1 = aPart Tryz.prog 3 cs 5 := field_agg rfl cs
@[go_sem high] theorem fa_268_2 (id g i c : Nat) : aFieldAddr Tryz.prog 268 (.ptr id g i c) 2 = some (True, .ptr id g i (c + 6)) := fieldAddr_ptr (n := 255) rfl id g i c
@[go_sem high] theorem ff_268_2 (cs : List AV) : aFieldAddr Tryz.prog 268 (.fptr cs) 2 = some (6 ≤ cs.length, .fptr (cs.drop 6)) := fieldAddr_fptr (n := 255) rfl cs
@[go_sem high] theorem fv_268_2 (cs : List AV) : aField Tryz.prog 268 (.agg cs) 2 = aPart Tryz.prog 241 cs 6 := field_agg rfl cs
@[go_sem high] theorem fa_269_0 (id g i c : Nat) : aFieldAddr Tryz.prog 269 (.ptr id g i c) 0 = some (True, .ptr id g i (c + 0)) := fieldAddr_ptr (n := 4) rfl id g i c
@[go_sem high] theorem ff_269_0 (cs : List AV) : aFieldAddr Tryz.prog 269 (.fptr cs) 0 = some (0 ≤ cs.length, .fptr (cs.drop 0)) := fieldAddr_fptr (n := 4) rfl cs
@[go_sem high] theorem fv_269_0 (cs : List AV) : aField Tryz.prog 269 (.agg cs) 0 = aPart Tryz.prog 267 cs 0 := field_agg rfl cs
@[go_sem high] theorem fa_269_1 (id g i c : Nat) : aFieldAddr Tryz.prog 269 (.ptr id g i c) 1 = some (True, .ptr id g i (c + 5)) := fieldAddr_ptr (n := 0) rfl id g i c
@[go_sem high] theorem ff_269_1 (cs : List AV) : aFieldAddr Tryz.prog 269 (.fptr cs) 1 = some (5 ≤ cs.length, .fptr (cs.drop 5)) := fieldAddr_fptr (n := 0) rfl cs
@[go_sem high] theorem fv_269_1 (cs : List AV) : aField Tryz.prog 269 (.agg cs) 1 = aPart Tryz.prog 3 cs 5 := field_agg rfl cs
@[go_sem high] theorem fa_269_2 (id g i c : Nat) : aFieldAddr Tryz.prog 269 (.ptr id g i c) 2 = some (True, .ptr id g i (c + 6)) := fieldAddr_ptr (n := 255) rfl id g i c
@[go_sem high] theorem ff_269_2 (cs : List AV) : aFieldAddr Tryz.prog 269 (.fptr cs) 2 = some (6 ≤ cs.length, .fptr (cs.drop 6)) := fieldAddr_fptr (n := 255) rfl cs
@[go_sem high] theorem fv_269_2 (cs : List AV) : aField Tryz.prog 269 (.agg cs) 2 = aPart Tryz.prog 241 cs 6 := field_agg rfl cs
@[go_sem high] theorem fa_287_0 (id g i c : Nat) : aFieldAddr Tryz.prog 287 (.ptr id g i c) 0 = some (True, .ptr id g i (c + 0)) := fieldAddr_ptr (n := 0) rfl id g i c
@[go_sem high] theorem ff_287_0 (cs : List AV) : aFieldAddr Tryz.prog 287 (.fptr cs) 0 = some (0 ≤ cs.length, .fptr (cs.drop 0)) := fieldAddr_fptr (n := 0) rfl cs
@[go_sem high] theorem fv_287_0 (cs : List AV) : aField Tryz.prog 287 (.agg cs) 0 = aPart Tryz.prog 9 cs 0 := field_agg rfl cs
@[go_sem high] theorem fa_287_1 (id g i c : Nat) : aFieldAddr Tryz.prog 287 (.ptr id g i c) 1 = some (True, .ptr id g i (c + 1)) := fieldAddr_ptr (n := 255) rfl id g i c
@[go_sem high] theorem ff_287_1 (cs : List AV) : aFieldAddr Tryz.prog 287 (.fptr cs) 1 = some (1 ≤ cs.length, .fptr (cs.drop 1)) := fieldAddr_fptr (n := 255) rfl cs
@[go_sem high] theorem fv_287_1 (cs : List AV) : aField Tryz.prog 287 (.agg cs) 1 = aPart Tryz.prog 286 cs 1 := field_agg rfl cs
@[go_sem high] theorem fa_287_2 (id g i c : Nat) : aFieldAddr Tryz.prog 287 (.ptr id g i c) 2 = some (True, .ptr id g i (c + 257)) := fieldAddr_ptr (n := 0) rfl id g i c
@[go_sem high] theorem ff_287_2 (cs : List AV) : aFieldAddr Tryz.prog 287 (.fptr cs) 2 = some (257 ≤ cs.length, .fptr (cs.drop 257)) := fieldAddr_fptr (n := 0) rfl cs
@[go_sem high] theorem fv_287_2 (cs : List AV) : aField Tryz.prog 287 (.agg cs) 2 = aPart Tryz.prog 285 cs 257 := field_agg rfl cs
@[go_sem high] theorem fa_288_0 (id g i c : Nat) : aFieldAddr Tryz.prog 288 (.ptr id g i c) 0 = some (True, .ptr id g i (c + 0)) := fieldAddr_ptr (n := 0) rfl id g i c
@[go_sem high] theorem ff_288_0 (cs : List AV) : aFieldAddr Tryz.prog 288 (.fptr cs) 0 = some (0 ≤ cs.length, .fptr (cs.drop 0)) := fieldAddr_fptr (n := 0) rfl cs
@[go_sem high] theorem fv_288_0 (cs : List AV) : aField Tryz.prog 288 (.agg cs) 0 = aPart Tryz.prog 9 cs 0 := field_agg rfl cs
@[go_sem high] theorem fa_288_1 (id g i c : Nat) : aFieldAddr Tryz.prog 288 (.ptr id g i c) 1 = some (True, .ptr id g i (c + 1)) := fieldAddr_ptr (n := 255) rfl id g i c
@[go_sem high] theorem ff_288_1 (cs : List AV) : aFieldAddr Tryz.prog 288 (.fptr cs) 1 = some (1 ≤ cs.length, .fptr (cs.drop 1)) := fieldAddr_fptr (n := 255) rfl cs
@[go_sem high] theorem fv_288_1 (cs : List AV) : aField Tryz.prog 288 (.agg cs) 1 = aPart Tryz.prog 286 cs 1 := field_agg rfl cs
@[go_sem high] theorem fa_288_2 (id g i c : Nat) : aFieldAddr Tryz.prog 288 (.ptr id g i c) 2 = some (True, .ptr id g i (c + 257)) := fieldAddr_ptr (n := 0) rfl id g i c
@[go_sem high] theorem ff_288_2 (cs : List AV) : aFieldAddr Tryz.prog 288 (.fptr cs) 2 = some (257 ≤ cs.length, .fptr (cs.drop 257)) := fieldAddr_fptr (n := 0) rfl cs
@[go_sem high] theorem fv_288_2 (cs : List AV) : aField Tryz.prog 288 (.agg cs) 2 = aPart Tryz.prog 285 cs 257 := field_agg rfl cs
@[go_sem high] theorem fa_293_0 (id g i c : Nat) : aFieldAddr Tryz.prog 293 (.ptr id g i c) 0 = some (True, .ptr id g i (c + 0)) := fieldAddr_ptr (n := 0) rfl id g i c
@[go_sem high] theorem ff_293_0 (cs : List AV) : aFieldAddr Tryz.prog 293 (.fptr cs) 0 = some (0 ≤ cs.length, .fptr (cs.drop 0)) := fieldAddr_fptr (n := 0) rfl cs
@[go_sem high] theorem fv_293_0 (cs : List AV) : aField Tryz.prog 293 (.agg cs) 0 = aPart Tryz.prog 17 cs 0 := field_agg rfl cs
@[go_sem high] theorem fa_293_1 (id g i c : Nat) : aFieldAddr Tryz.prog 293 (.ptr id g i c) 1 = some (True, .ptr id g i (c + 1)) := fieldAddr_ptr (n := 0) rfl id g i c
@[go_sem high] theorem ff_293_1 (cs : List AV) : aFieldAddr Tryz.prog 293 (.fptr cs) 1 = some (1 ≤ cs.length, .fptr (cs.drop 1)) := fieldAddr_fptr (n := 0) rfl cs
@[go_sem high] theorem fv_293_1 (cs : List AV) : aField Tryz.prog 293 (.agg cs) 1 = aPart Tryz.prog 17 cs 1 := field_agg rfl cs
@[go_sem high] theorem fa_293_2 (id g i c : Nat) : aFieldAddr Tryz.prog 293 (.ptr id g i c) 2 = some (True, .ptr id g i (c + 2)) := fieldAddr_ptr (n := 0) rfl id g i c
@[go_sem high] theorem ff_293_2 (cs : List AV) : aFieldAddr Tryz.prog 293 (.fptr cs) 2 = some (2 ≤ cs.length, .fptr (cs.drop 2)) := fieldAddr_fptr (n := 0) rfl cs
@[go_sem high] theorem fv_293_2 (cs : List AV) : aField Tryz.prog 293 (.agg cs) 2 = aPart Tryz.prog 17 cs 2 := field_agg rfl cs
@[go_sem high] theorem fa_293_3 (id g i c : Nat) : aFieldAddr Tryz.prog 293 (.ptr id g i c) 3 = some (True, .ptr id g i (c + 3)) := fieldAddr_ptr (n := 0) rfl id g i c
@[go_sem high] theorem ff_293_3 (cs : List AV) : aFieldAddr Tryz.prog 293 (.fptr cs) 3 = some (3 ≤ cs.length, .fptr (cs.drop 3)) := fieldAddr_fptr (n := 0) rfl cs
@[go_sem high] theorem fv_293_3 (cs : List AV) : aField Tryz.prog 293 (.agg cs) 3 = aPart Tryz.prog 9 cs 3 := field_agg rfl cs
@[go_sem high] theorem fa_294_0 (id g i c : Nat) : aFieldAddr Tryz.prog 294 (.ptr id g i c) 0 = some (True, .ptr id g i (c + 0)) := fieldAddr_ptr (n := 0) rfl id g i c
@[go_sem high] theorem ff_294_0 (cs : List AV) : aFieldAddr Tryz.prog 294 (.fptr cs) 0 = some (0 ≤ cs.length, .fptr (cs.drop 0)) := fieldAddr_fptr (n := 0) rfl cs
@[go_sem high] theorem fv_294_0 (cs : List AV) : aField Tryz.prog 294 (.agg cs) 0 = aPart Tryz.prog 17 cs 0 := field_agg rfl cs
@[go_sem high] theorem fa_294_1 (id g i c : Nat) : aFieldAddr Tryz.prog 294 (.ptr id g i c) 1 = some (True, .ptr id g i (c + 1)) := fieldAddr_ptr (n := 0) rfl id g i c
@[go_sem high] theorem ff_294_1 (cs : List AV) : aFieldAddr Tryz.prog 294 (.fptr cs) 1 = some (1 ≤ cs.length, .fptr (cs.drop 1)) := fieldAddr_fptr (n := 0) rfl cs
@[go_sem high] theorem fv_294_1 (cs : List AV) : aField Tryz.prog 294 (.agg cs) 1 = aPart Tryz.prog 17 cs 1 := field_agg rfl cs
@[go_sem high] theorem fa_294_2 (id g i c : Nat) : aFieldAddr Tryz.prog 294 (.ptr id g i c) 2 = some (True, .ptr id g i (c + 2)) := fieldAddr_ptr (n := 0) rfl id g i c
@[go_sem high] theorem ff_294_2 (cs : List AV) : aFieldAddr Tryz.prog 294 (.fptr cs) 2 = some (2 ≤ cs.length, .fptr (cs.drop 2)) := fieldAddr_fptr (n := 0) rfl cs
@[go_sem high] theorem fv_294_2 (cs : List AV) : aField Tryz.prog 294 (.agg cs) 2 = aPart Tryz.prog 17 cs 2 := field_agg rfl cs
@[go_sem high] theorem fa_294_3 (id g i c : Nat) : aFieldAddr Tryz.prog 294 (.ptr id g i c) 3 = some (True, .ptr id g i (c + 3)) := fieldAddr_ptr (n := 0) rfl id g i c
@[go_sem high] theorem ff_294_3 (cs : List AV) : aFieldAddr Tryz.prog 294 (.fptr cs) 3 = some (3 ≤ cs.length, .fptr (cs.drop 3)) := fieldAddr_fptr (n := 0) rfl cs
@[go_sem high] theorem fv_294_3 (cs : List AV) : aField Tryz.prog 294 (.agg cs) 3 = aPart Tryz.prog 9 cs 3 := field_agg rfl cs
@[go_sem high] theorem fv_296_0 (cs : List AV) : aField Tryz.prog 296 (.agg cs) 0 = aPart Tryz.prog 295 cs 0 := field_agg rfl cs
@[go_sem high] theorem fv_297_0 (cs : List AV) : aField Tryz.prog 297 (.agg cs) 0 = aPart Tryz.prog 295 cs 0 := field_agg rfl cs
@[go_sem high] theorem fa_303_0 (id g i c : Nat) : aFieldAddr Tryz.prog 303 (.ptr id g i c) 0 = some (True, .ptr id g i (c + 0)) := fieldAddr_ptr (n := 0) rfl id g i c
@[go_sem high] theorem ff_303_0 (cs : List AV) : aFieldAddr Tryz.prog 303 (.fptr cs) 0 = some (0 ≤ cs.length, .fptr (cs.drop 0)) := fieldAddr_fptr (n := 0) rfl cs
@[go_sem high] theorem fv_303_0 (cs : List AV) : aField Tryz.prog 303 (.agg cs) 0 = aPart Tryz.prog 12 cs 0 := field_agg rfl cs
@[go_sem high] theorem fa_303_1 (id g i c : Nat) : aFieldAddr Tryz.prog 303 (.ptr id g i c) 1 = some (True, .ptr id g i (c + 1)) := fieldAddr_ptr (n := 0) rfl id g i c
@[go_sem high] theorem ff_303_1 (cs : List AV) : aFieldAddr Tryz.prog 303 (.fptr cs) 1 = some (1 ≤ cs.length, .fptr (cs.drop 1)) := fieldAddr_fptr (n := 0) rfl cs
@[go_sem high] theorem fv_303_1 (cs : List AV) : aField Tryz.prog 303 (.agg cs) 1 = aPart Tryz.prog 12 cs 1 := field_agg rfl cs
@[go_sem high] theorem fa_303_2 (id g i c : Nat) : aFieldAddr Tryz.prog 303 (.ptr id g i c) 2 = some (True, .ptr id g i (c + 2)) := fieldAddr_ptr (n := 0) rfl id g i c
@[go_sem high] theorem ff_303_2 (cs : List AV) : aFieldAddr Tryz.prog 303 (.fptr cs) 2 = some (2 ≤ cs.length, .fptr (cs.drop 2)) := fieldAddr_fptr (n := 0) rfl cs
@[go_sem high] theorem fv_303_2 (cs : List AV) : aField Tryz.prog 303 (.agg cs) 2 = aPart Tryz.prog 170 cs 2 := field_agg rfl cs
@[go_sem high] theorem fa_303_3 (id g i c : Nat) : aFieldAddr Tryz.prog 303 (.ptr id g i c) 3 = some (True, .ptr id g i (c + 3)) := fieldAddr_ptr (n := 0) rfl id g i c
@[go_sem high] theorem ff_303_3 (cs : List AV) : aFieldAddr Tryz.prog 303 (.fptr cs) 3 = some (3 ≤ cs.length, .fptr (cs.drop 3)) := fieldAddr_fptr (n := 0) rfl cs
@[go_sem high] theorem fv_303_3 (cs : List AV) : aField Tryz.prog 303 (.agg cs) 3 = aPart Tryz.prog 298 cs 3 := field_agg rfl cs
@[go_sem high] theorem fa_303_4 (id g i c : Nat) : aFieldAddr Tryz.prog 303 (.ptr id g i c) 4 = some (True, .ptr id g i (c + 4)) := fieldAddr_ptr (n := 0) rfl id g i c
@[go_sem high] theorem ff_303_4 (cs : List AV) : aFieldAddr Tryz.prog 303 (.fptr cs) 4 = some (4 ≤ cs.length, .fptr (cs.drop 4)) := fieldAddr_fptr (n := 0) rfl cs
@[go_sem high] theorem fv_303_4 (cs : List AV) : aField Tryz.prog 303 (.agg cs) 4 = aPart Tryz.prog 5 cs 4 := field_agg rfl cs
@[go_sem high] theorem fa_303_5 (id g i c : Nat) : aFieldAddr Tryz.prog 303 (.ptr id g i c) 5 = some (True, .ptr id g i (c + 5)) := fieldAddr_ptr (n := 0) rfl id g i c
@[go_sem high] theorem ff_303_5 (cs : List AV) : aFieldAddr Tryz.prog 303 (.fptr cs) 5 = some (5 ≤ cs.length, .fptr (cs.drop 5)) := fieldAddr_fptr (n := 0) rfl cs
@[go_sem high] theorem fv_303_5 (cs : List AV) : aField Tryz.prog 303 (.agg cs) 5 = aPart Tryz.prog 5 cs 5 := field_agg rfl cs
@[go_sem high] theorem fa_303_6 (id g i c : Nat) : aFieldAddr Tryz.prog 303 (.ptr id g i c) 6 = some (True, .ptr id g i (c + 6)) := fieldAddr_ptr (n := 0) rfl id g i c
@[go_sem high] theorem ff_303_6 (cs : List AV) : aFieldAddr Tryz.prog 303 (.fptr cs) 6 = some (6 ≤ cs.length, .fptr (cs.drop 6)) := fieldAddr_fptr (n := 0) rfl cs
@[go_sem high] theorem fv_303_6 (cs : List AV) : aField Tryz.prog 303 (.agg cs) 6 = aPart Tryz.prog 299 cs 6 := field_agg rfl cs
@[go_sem high] theorem fa_303_7 (id g i c : Nat) : aFieldAddr Tryz.prog 303 (.ptr id g i c) 7 = some (True, .ptr id g i (c + 7)) := fieldAddr_ptr (n := 0) rfl id g i c
@[go_sem high] theorem ff_303_7 (cs : List AV) : aFieldAddr Tryz.prog 303 (.fptr cs) 7 = some (7 ≤ cs.length, .fptr (cs.drop 7)) := fieldAddr_fptr (n := 0) rfl cs
@[go_sem high] theorem fv_303_7 (cs : List AV) : aField Tryz.prog 303 (.agg cs) 7 = aPart Tryz.prog 300 cs 7 := field_agg rfl cs
@[go_sem high] theorem fa_303_8 (id g i c : Nat) : aFieldAddr Tryz.prog 303 (.ptr id g i c) 8 = some (True, .ptr id g i (c + 8)) := fieldAddr_ptr (n := 0) rfl id g i c
@[go_sem high] theorem ff_303_8 (cs : List AV) : aFieldAddr Tryz.prog 303 (.fptr cs) 8 = some (8 ≤ cs.length, .fptr (cs.drop 8)) := fieldAddr_fptr (n := 0) rfl cs
@[go_sem high] theorem fv_303_8 (cs : List AV) : aField Tryz.prog 303 (.agg cs) 8 = aPart Tryz.prog 158 cs 8 := field_agg rfl cs
@[go_sem high] theorem fa_303_9 (id g i c : Nat) : aFieldAddr Tryz.prog 303 (.ptr id g i c) 9 = some (True, .ptr id g i (c + 9)) := fieldAddr_ptr (n := 0) rfl id g i c
@[go_sem high] theorem ff_303_9 (cs : List AV) : aFieldAddr Tryz.prog 303 (.fptr cs) 9 = some (9 ≤ cs.length, .fptr (cs.drop 9)) := fieldAddr_fptr (n := 0) rfl cs
@[go_sem high] theorem fv_303_9 (cs : List AV) : aField Tryz.prog 303 (.agg cs) 9 = aPart Tryz.prog 301 cs 9 := field_agg rfl cs
@[go_sem high] theorem fa_304_0 (id g i c : Nat) : aFieldAddr Tryz.prog 304 (.ptr id g i c) 0 = some (True, .ptr id g i (c + 0)) := fieldAddr_ptr (n := 0) rfl id g i c
@[go_sem high] theorem ff_304_0 (cs : List AV) : aFieldAddr Tryz.prog 304 (.fptr cs) 0 = some (0 ≤ cs.length, .fptr (cs.drop 0)) := fieldAddr_fptr (n := 0) rfl cs
@[go_sem high] theorem fv_304_0 (cs : List AV) : aField Tryz.prog 304 (.agg cs) 0 = aPart Tryz.prog 12 cs 0 := field_agg rfl cs
@[go_sem high] theorem fa_304_1 (id g i c : Nat) : aFieldAddr Tryz.prog 304 (.ptr id g i c) 1 = some (True, .ptr id g i (c + 1)) := fieldAddr_ptr (n := 0) rfl id g i c
@[go_sem high] theorem ff_304_1 (cs : List AV) : aFieldAddr Tryz.prog 304 (.fptr cs) 1 = some (1 ≤ cs.length, .fptr (cs.drop 1)) := fieldAddr_fptr (n := 0) rfl cs
@[go_sem high] theorem fv_304_1 (cs : List AV) : aField Tryz.prog 304 (.agg cs) 1 = aPart Tryz.prog 12 cs 1 := field_agg rfl cs
@[go_sem high] theorem fa_304_2 (id g i c : Nat) : aFieldAddr Tryz.prog 304 (.ptr id g i c) 2 = some (True, .ptr id g i (c + 2)) := fieldAddr_ptr (n := 0) rfl id g i c
@[go_sem high] theorem ff_304_2 (cs : List AV) : aFieldAddr Tryz.prog 304 (.fptr cs) 2 = some (2 ≤ cs.length, .fptr (cs.drop 2)) := fieldAddr_fptr (n := 0) rfl cs
@[go_sem high] theorem fv_304_2 (cs : List AV) : aField Tryz.prog 304 (.agg cs) 2 = aPart Tryz.prog 170 cs 2 := field_agg rfl cs
@[go_sem high] theorem fa_304_3 (id g i c : Nat) : aFieldAddr Tryz.prog 304 (.ptr id g i c) 3 = some (True, .ptr id g i (c + 3)) := fieldAddr_ptr (n := 0) rfl id g i c
@[go_sem high] theorem ff_304_3 (cs : List AV) : aFieldAddr Tryz.prog 304 (.fptr cs) 3 = some (3 ≤ cs.length, .fptr (cs.drop 3)) := fieldAddr_fptr (n := 0) rfl cs
@[go_sem high] theorem fv_304_3 (cs : List AV) : aField Tryz.prog 304 (.agg cs) 3 = aPart Tryz.prog 298 cs 3 := field_agg rfl cs
@[go_sem high] theorem fa_304_4 (id g i c : Nat) : aFieldAddr Tryz.prog 304 (.ptr id g i c) 4 = some (True, .ptr id g i (c + 4)) := fieldAddr_ptr (n := 0) rfl id g i c
@[go_sem high] theorem ff_304_4 (cs : List AV) : aFieldAddr Tryz.prog 304 (.fptr cs) 4 = some (4 ≤ cs.length, .fptr (cs.drop 4)) := fieldAddr_fptr (n := 0) rfl cs
@[go_sem high] theorem fv_304_4 (cs : List AV) : aField Tryz.prog 304 (.agg cs) 4 = aPart Tryz.prog 5 cs 4 := field_agg rfl cs
@[go_sem high] theorem fa_304_5 (id g i c : Nat) : aFieldAddr Tryz.prog 304 (.ptr id g i c) 5 = some (True, .ptr id g i (c + 5)) := fieldAddr_ptr (n := 0) rfl id g i c
@[go_sem high] theorem ff_304_5 (cs : List AV) : aFieldAddr Tryz.prog 304 (.fptr cs) 5 = some (5 ≤ cs.length, .fptr (cs.drop 5)) := fieldAddr_fptr (n := 0) rfl cs
@[go_sem high] theorem fv_304_5 (cs : List AV) : aField Tryz.prog 304 (.agg cs) 5 = aPart Tryz.prog 5 cs 5 := field_agg rfl cs
@[go_sem high] theorem fa_304_6 (id g i c : Nat) : aFieldAddr Tryz.prog 304 (.ptr id g i c) 6 = some (True, .ptr id g i (c + 6)) := fieldAddr_ptr (n := 0) rfl id g i c
@[go_sem high] theorem ff_304_6 (cs : List AV) : aFieldAddr Tryz.prog 304 (.fptr cs) 6 = some (6 ≤ cs.length, .fptr (cs.drop 6)) := fieldAddr_fptr (n := 0) rfl cs
@[go_sem high] theorem fv_304_6 (cs : List AV) : aField Tryz.prog 304 (.agg cs) 6 = aPart Tryz.prog 299 cs 6 := field_agg rfl cs
@[go_sem high] theorem fa_304_7 (id g i c : Nat) : aFieldAddr Tryz.prog 304 (.ptr id g i c) 7 = some (True, .ptr id g i (c + 7)) := fieldAddr_ptr (n := 0) rfl id g i c
@[go_sem high] theorem ff_304_7 (cs : List AV) : aFieldAddr Tryz.prog 304 (.fptr cs) 7 = some (7 ≤ cs.length, .fptr (cs.drop 7)) := fieldAddr_fptr (n := 0) rfl cs
@[go_sem high] theorem fv_304_7 (cs : List AV) : aField Tryz.prog 304 (.agg cs) 7 = aPart Tryz.prog 300 cs 7 := field_agg rfl cs
@[go_sem high] theorem fa_304_8 (id g i c : Nat) : aFieldAddr Tryz.prog 304 (.ptr id g i c) 8 = some (True, .ptr id g i (c + 8)) := fieldAddr_ptr (n := 0) rfl id g i c
@[go_sem high] theorem ff_304_8 (cs : List AV) : aFieldAddr Tryz.prog 304 (.fptr cs) 8 = some (8 ≤ cs.length, .fptr (cs.drop 8)) := fieldAddr_fptr (n := 0) rfl cs
@[go_sem high] theorem fv_304_8 (cs : List AV) : aField Tryz.prog 304 (.agg cs) 8 = aPart Tryz.prog 158 cs 8 := field_agg rfl cs
@[go_sem high] theorem fa_304_9 (id g i c : Nat) : aFieldAddr Tryz.prog 304 (.ptr id g i c) 9 = some (True, .ptr id g i (c + 9)) := fieldAddr_ptr (n := 0) rfl id g i c
@[go_sem high] theorem ff_304_9 (cs : List AV) : aFieldAddr Tryz.prog 304 (.fptr cs) 9 = some (9 ≤ cs.length, .fptr (cs.drop 9)) := fieldAddr_fptr (n := 0) rfl cs
@[go_sem high] theorem fv_304_9 (cs : List AV) : aField Tryz.prog 304 (.agg cs) 9 = aPart Tryz.prog 301 cs 9 := field_agg rfl cs
@[go_sem high] theorem fa_316_0 (id g i c : Nat) : aFieldAddr Tryz.prog 316 (.ptr id g i c) 0 = some (True, .ptr id g i (c + 0)) := fieldAddr_ptr (n := 0) rfl id g i c
@[go_sem high] theorem ff_316_0 (cs : List AV) : aFieldAddr Tryz.prog 316 (.fptr cs) 0 = some (0 ≤ cs.length, .fptr (cs.drop 0)) := fieldAddr_fptr (n := 0) rfl cs
@[go_sem high] theorem fv_316_0 (cs : List AV) : aField Tryz.prog 316 (.agg cs) 0 = aPart Tryz.prog 309 cs 0 := field_agg rfl cs
@[go_sem high] theorem fa_317_0 (id g i c : Nat) : aFieldAddr Tryz.prog 317 (.ptr id g i c) 0 = some (True, .ptr id g i (c + 0)) := fieldAddr_ptr (n := 0) rfl id g i c
@[go_sem high] theorem ff_317_0 (cs : List AV) : aFieldAddr Tryz.prog 317 (.fptr cs) 0 = some (0 ≤ cs.length, .fptr (cs.drop 0)) := fieldAddr_fptr (n := 0) rfl cs
@[go_sem high] theorem fv_317_0 (cs : List AV) : aField Tryz.prog 317 (.agg cs) 0 = aPart Tryz.prog 309 cs 0 := field_agg rfl cs
end Go.Almanac
