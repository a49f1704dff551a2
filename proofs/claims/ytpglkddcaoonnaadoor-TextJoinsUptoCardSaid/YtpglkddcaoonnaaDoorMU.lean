/- The types, as equations (written by types.py). -/
import Derived.Test.YtpglkddcaoonnaaDoorProg
import Derived.Test.YtpglkddcaoonnaaDoorM2
/- The types, as equations (written by types.py). -/
namespace Go.Almanac
open Go.RowKit Go.Proofs Go.Abs

@[go_sem] theorem aggT_0 : aggT Tryd.prog 0 = some false := rfl
@[go_sem] theorem tsz_0 : tsz Tryd.prog 0 = some 1 := rfl
@[go_sem] theorem hasZero_0 : hasZero Tryd.prog 0 = some 1 := rfl
@[go_sem] theorem tby_0 : tby Tryd.prog 0 = some 0 := rfl
@[go_sem] theorem aggT_1 : aggT Tryd.prog 1 = some false := rfl
@[go_sem] theorem tsz_1 : tsz Tryd.prog 1 = some 1 := rfl
@[go_sem] theorem hasZero_1 : hasZero Tryd.prog 1 = some 1 := rfl
@[go_sem] theorem tby_1 : tby Tryd.prog 1 = some 8 := rfl
@[go_sem] theorem und_2 : Tryd.prog.underlying 2 = some (.int .i64) := rfl
@[go_sem] theorem aggT_2 : aggT Tryd.prog 2 = some false := rfl
@[go_sem] theorem tsz_2 : tsz Tryd.prog 2 = some 1 := rfl
@[go_sem] theorem hasZero_2 : hasZero Tryd.prog 2 = some 1 := rfl
@[go_sem] theorem tby_2 : tby Tryd.prog 2 = some 8 := rfl
@[go_sem] theorem und_3 : Tryd.prog.underlying 3 = some (.int .i64) := rfl
@[go_sem] theorem aggT_3 : aggT Tryd.prog 3 = some false := rfl
@[go_sem] theorem tsz_3 : tsz Tryd.prog 3 = some 1 := rfl
@[go_sem] theorem hasZero_3 : hasZero Tryd.prog 3 = some 1 := rfl
@[go_sem] theorem tby_3 : tby Tryd.prog 3 = some 8 := rfl
@[go_sem] theorem und_4 : Tryd.prog.underlying 4 = some (.bool) := rfl
@[go_sem] theorem aggT_4 : aggT Tryd.prog 4 = some false := rfl
@[go_sem] theorem tsz_4 : tsz Tryd.prog 4 = some 1 := rfl
@[go_sem] theorem hasZero_4 : hasZero Tryd.prog 4 = some 1 := rfl
@[go_sem] theorem tby_4 : tby Tryd.prog 4 = some 1 := rfl
@[go_sem] theorem und_5 : Tryd.prog.underlying 5 = some (.int .u8) := rfl
@[go_sem] theorem aggT_5 : aggT Tryd.prog 5 = some false := rfl
@[go_sem] theorem tsz_5 : tsz Tryd.prog 5 = some 1 := rfl
@[go_sem] theorem hasZero_5 : hasZero Tryd.prog 5 = some 1 := rfl
@[go_sem] theorem tby_5 : tby Tryd.prog 5 = some 1 := rfl
@[go_sem] theorem und_6 : Tryd.prog.underlying 6 = some (.int .u8) := rfl
@[go_sem] theorem aggT_6 : aggT Tryd.prog 6 = some false := rfl
@[go_sem] theorem tsz_6 : tsz Tryd.prog 6 = some 1 := rfl
@[go_sem] theorem hasZero_6 : hasZero Tryd.prog 6 = some 1 := rfl
@[go_sem] theorem tby_6 : tby Tryd.prog 6 = some 1 := rfl
@[go_sem] theorem aggT_7 : aggT Tryd.prog 7 = some true := rfl
@[go_sem] theorem tsz_7 : tsz Tryd.prog 7 = some 4 := rfl
@[go_sem] theorem hasZero_7 : hasZero Tryd.prog 7 = some 4 := rfl
@[go_sem] theorem tby_7 : tby Tryd.prog 7 = some 24 := rfl
@[go_sem] theorem aggT_8 : aggT Tryd.prog 8 = some true := rfl
@[go_sem] theorem tsz_8 : tsz Tryd.prog 8 = some 4 := rfl
@[go_sem] theorem hasZero_8 : hasZero Tryd.prog 8 = some 4 := rfl
@[go_sem] theorem tby_8 : tby Tryd.prog 8 = some 24 := rfl
@[go_sem] theorem und_9 : Tryd.prog.underlying 9 = some (.string) := rfl
@[go_sem] theorem aggT_9 : aggT Tryd.prog 9 = some false := rfl
@[go_sem] theorem tsz_9 : tsz Tryd.prog 9 = some 1 := rfl
@[go_sem] theorem hasZero_9 : hasZero Tryd.prog 9 = some 1 := rfl
@[go_sem] theorem tby_9 : tby Tryd.prog 9 = some 16 := rfl
@[go_sem] theorem und_10 : Tryd.prog.underlying 10 = some (.string) := rfl
@[go_sem] theorem aggT_10 : aggT Tryd.prog 10 = some false := rfl
@[go_sem] theorem tsz_10 : tsz Tryd.prog 10 = some 1 := rfl
@[go_sem] theorem hasZero_10 : hasZero Tryd.prog 10 = some 1 := rfl
@[go_sem] theorem tby_10 : tby Tryd.prog 10 = some 16 := rfl
@[go_sem] theorem und_11 : Tryd.prog.underlying 11 = some (.string) := rfl
@[go_sem] theorem aggT_11 : aggT Tryd.prog 11 = some false := rfl
@[go_sem] theorem tsz_11 : tsz Tryd.prog 11 = some 1 := rfl
@[go_sem] theorem hasZero_11 : hasZero Tryd.prog 11 = some 1 := rfl
@[go_sem] theorem tby_11 : tby Tryd.prog 11 = some 16 := rfl
@[go_sem] theorem und_12 : Tryd.prog.underlying 12 = some (.int .u64) := rfl
@[go_sem] theorem aggT_12 : aggT Tryd.prog 12 = some false := rfl
@[go_sem] theorem tsz_12 : tsz Tryd.prog 12 = some 1 := rfl
@[go_sem] theorem hasZero_12 : hasZero Tryd.prog 12 = some 1 := rfl
@[go_sem] theorem tby_12 : tby Tryd.prog 12 = some 8 := rfl
@[go_sem] theorem aggT_13 : aggT Tryd.prog 13 = some true := rfl
@[go_sem] theorem tsz_13 : tsz Tryd.prog 13 = some 2 := rfl
@[go_sem] theorem hasZero_13 : hasZero Tryd.prog 13 = some 2 := rfl
@[go_sem] theorem tby_13 : tby Tryd.prog 13 = some 24 := rfl
@[go_sem] theorem aggT_14 : aggT Tryd.prog 14 = some true := rfl
@[go_sem] theorem tsz_14 : tsz Tryd.prog 14 = some 2 := rfl
@[go_sem] theorem hasZero_14 : hasZero Tryd.prog 14 = some 2 := rfl
@[go_sem] theorem tby_14 : tby Tryd.prog 14 = some 24 := rfl
@[go_sem] theorem und_15 : Tryd.prog.underlying 15 = some (.pointer 81) := rfl
@[go_sem] theorem aggT_15 : aggT Tryd.prog 15 = some false := rfl
@[go_sem] theorem tsz_15 : tsz Tryd.prog 15 = some 1 := rfl
@[go_sem] theorem hasZero_15 : hasZero Tryd.prog 15 = some 1 := rfl
@[go_sem] theorem tby_15 : tby Tryd.prog 15 = some 8 := rfl
@[go_sem] theorem und_16 : Tryd.prog.underlying 16 = some (.pointer 84) := rfl
@[go_sem] theorem aggT_16 : aggT Tryd.prog 16 = some false := rfl
@[go_sem] theorem tsz_16 : tsz Tryd.prog 16 = some 1 := rfl
@[go_sem] theorem hasZero_16 : hasZero Tryd.prog 16 = some 1 := rfl
@[go_sem] theorem tby_16 : tby Tryd.prog 16 = some 8 := rfl
@[go_sem] theorem und_17 : Tryd.prog.underlying 17 = some (.pointer 91) := rfl
@[go_sem] theorem aggT_17 : aggT Tryd.prog 17 = some false := rfl
@[go_sem] theorem tsz_17 : tsz Tryd.prog 17 = some 1 := rfl
@[go_sem] theorem hasZero_17 : hasZero Tryd.prog 17 = some 1 := rfl
@[go_sem] theorem tby_17 : tby Tryd.prog 17 = some 8 := rfl
@[go_sem] theorem aggT_18 : aggT Tryd.prog 18 = some true := rfl
@[go_sem] theorem tsz_18 : tsz Tryd.prog 18 = some 1 := rfl
@[go_sem] theorem hasZero_18 : hasZero Tryd.prog 18 = some 1 := rfl
@[go_sem] theorem tby_18 : tby Tryd.prog 18 = some 8 := rfl
@[go_sem] theorem aggT_19 : aggT Tryd.prog 19 = some true := rfl
@[go_sem] theorem tsz_19 : tsz Tryd.prog 19 = some 1 := rfl
@[go_sem] theorem hasZero_19 : hasZero Tryd.prog 19 = some 1 := rfl
@[go_sem] theorem tby_19 : tby Tryd.prog 19 = some 8 := rfl
@[go_sem] theorem aggT_20 : aggT Tryd.prog 20 = some false := rfl
@[go_sem] theorem tsz_20 : tsz Tryd.prog 20 = some 1 := rfl
@[go_sem] theorem hasZero_20 : hasZero Tryd.prog 20 = some 1 := rfl
@[go_sem] theorem tby_20 : tby Tryd.prog 20 = some 16 := rfl
@[go_sem] theorem und_21 : Tryd.prog.underlying 21 = some (.int .i32) := rfl
@[go_sem] theorem aggT_21 : aggT Tryd.prog 21 = some false := rfl
@[go_sem] theorem tsz_21 : tsz Tryd.prog 21 = some 1 := rfl
@[go_sem] theorem hasZero_21 : hasZero Tryd.prog 21 = some 1 := rfl
@[go_sem] theorem tby_21 : tby Tryd.prog 21 = some 4 := rfl
@[go_sem] theorem und_22 : Tryd.prog.underlying 22 = some (.int .i64) := rfl
@[go_sem] theorem aggT_22 : aggT Tryd.prog 22 = some false := rfl
@[go_sem] theorem tsz_22 : tsz Tryd.prog 22 = some 1 := rfl
@[go_sem] theorem hasZero_22 : hasZero Tryd.prog 22 = some 1 := rfl
@[go_sem] theorem tby_22 : tby Tryd.prog 22 = some 8 := rfl
@[go_sem] theorem aggT_23 : aggT Tryd.prog 23 = some false := rfl
@[go_sem] theorem tsz_23 : tsz Tryd.prog 23 = some 1 := rfl
@[go_sem] theorem hasZero_23 : hasZero Tryd.prog 23 = some 1 := rfl
@[go_sem] theorem tby_23 : tby Tryd.prog 23 = some 0 := rfl
@[go_sem] theorem aggT_24 : aggT Tryd.prog 24 = some false := rfl
@[go_sem] theorem tsz_24 : tsz Tryd.prog 24 = some 1 := rfl
@[go_sem] theorem hasZero_24 : hasZero Tryd.prog 24 = some 1 := rfl
@[go_sem] theorem tby_24 : tby Tryd.prog 24 = some 8 := rfl
@[go_sem] theorem aggT_25 : aggT Tryd.prog 25 = some false := rfl
@[go_sem] theorem tsz_25 : tsz Tryd.prog 25 = some 1 := rfl
@[go_sem] theorem hasZero_25 : hasZero Tryd.prog 25 = some 1 := rfl
@[go_sem] theorem tby_25 : tby Tryd.prog 25 = some 0 := rfl
@[go_sem] theorem aggT_26 : aggT Tryd.prog 26 = some false := rfl
@[go_sem] theorem tsz_26 : tsz Tryd.prog 26 = some 1 := rfl
@[go_sem] theorem hasZero_26 : hasZero Tryd.prog 26 = some 1 := rfl
@[go_sem] theorem tby_26 : tby Tryd.prog 26 = some 8 := rfl
@[go_sem] theorem aggT_27 : aggT Tryd.prog 27 = some false := rfl
@[go_sem] theorem tsz_27 : tsz Tryd.prog 27 = some 1 := rfl
@[go_sem] theorem hasZero_27 : hasZero Tryd.prog 27 = some 1 := rfl
@[go_sem] theorem tby_27 : tby Tryd.prog 27 = some 8 := rfl
@[go_sem] theorem aggT_28 : aggT Tryd.prog 28 = some false := rfl
@[go_sem] theorem tsz_28 : tsz Tryd.prog 28 = some 1 := rfl
@[go_sem] theorem hasZero_28 : hasZero Tryd.prog 28 = some 1 := rfl
@[go_sem] theorem tby_28 : tby Tryd.prog 28 = some 8 := rfl
@[go_sem] theorem aggT_29 : aggT Tryd.prog 29 = some false := rfl
@[go_sem] theorem tsz_29 : tsz Tryd.prog 29 = some 1 := rfl
@[go_sem] theorem hasZero_29 : hasZero Tryd.prog 29 = some 1 := rfl
@[go_sem] theorem tby_29 : tby Tryd.prog 29 = some 8 := rfl
@[go_sem] theorem aggT_30 : aggT Tryd.prog 30 = some false := rfl
@[go_sem] theorem tsz_30 : tsz Tryd.prog 30 = some 1 := rfl
@[go_sem] theorem hasZero_30 : hasZero Tryd.prog 30 = some 1 := rfl
@[go_sem] theorem tby_30 : tby Tryd.prog 30 = some 0 := rfl
@[go_sem] theorem aggT_31 : aggT Tryd.prog 31 = some false := rfl
@[go_sem] theorem tsz_31 : tsz Tryd.prog 31 = some 1 := rfl
@[go_sem] theorem hasZero_31 : hasZero Tryd.prog 31 = some 1 := rfl
@[go_sem] theorem tby_31 : tby Tryd.prog 31 = some 8 := rfl
@[go_sem] theorem aggT_32 : aggT Tryd.prog 32 = some false := rfl
@[go_sem] theorem tsz_32 : tsz Tryd.prog 32 = some 1 := rfl
@[go_sem] theorem hasZero_32 : hasZero Tryd.prog 32 = some 1 := rfl
@[go_sem] theorem tby_32 : tby Tryd.prog 32 = some 8 := rfl
@[go_sem] theorem aggT_33 : aggT Tryd.prog 33 = some false := rfl
@[go_sem] theorem tsz_33 : tsz Tryd.prog 33 = some 1 := rfl
@[go_sem] theorem hasZero_33 : hasZero Tryd.prog 33 = some 1 := rfl
@[go_sem] theorem tby_33 : tby Tryd.prog 33 = some 8 := rfl
@[go_sem] theorem aggT_34 : aggT Tryd.prog 34 = some false := rfl
@[go_sem] theorem tsz_34 : tsz Tryd.prog 34 = some 1 := rfl
@[go_sem] theorem hasZero_34 : hasZero Tryd.prog 34 = some 1 := rfl
@[go_sem] theorem tby_34 : tby Tryd.prog 34 = some 8 := rfl
@[go_sem] theorem und_35 : Tryd.prog.underlying 35 = some (.pointer 38) := rfl
@[go_sem] theorem aggT_35 : aggT Tryd.prog 35 = some false := rfl
@[go_sem] theorem tsz_35 : tsz Tryd.prog 35 = some 1 := rfl
@[go_sem] theorem hasZero_35 : hasZero Tryd.prog 35 = some 1 := rfl
@[go_sem] theorem tby_35 : tby Tryd.prog 35 = some 8 := rfl
@[go_sem] theorem und_36 : Tryd.prog.underlying 36 = some (.slice 5) := rfl
@[go_sem] theorem aggT_36 : aggT Tryd.prog 36 = some false := rfl
@[go_sem] theorem tsz_36 : tsz Tryd.prog 36 = some 1 := rfl
@[go_sem] theorem hasZero_36 : hasZero Tryd.prog 36 = some 1 := rfl
@[go_sem] theorem tby_36 : tby Tryd.prog 36 = some 24 := rfl
@[go_sem] theorem aggT_37 : aggT Tryd.prog 37 = some true := rfl
@[go_sem] theorem tsz_37 : tsz Tryd.prog 37 = some 2 := rfl
@[go_sem] theorem hasZero_37 : hasZero Tryd.prog 37 = some 2 := rfl
@[go_sem] theorem tby_37 : tby Tryd.prog 37 = some 32 := rfl
@[go_sem] theorem aggT_38 : aggT Tryd.prog 38 = some true := rfl
@[go_sem] theorem tsz_38 : tsz Tryd.prog 38 = some 2 := rfl
@[go_sem] theorem hasZero_38 : hasZero Tryd.prog 38 = some 2 := rfl
@[go_sem] theorem tby_38 : tby Tryd.prog 38 = some 32 := rfl
@[go_sem] theorem aggT_39 : aggT Tryd.prog 39 = some false := rfl
@[go_sem] theorem tsz_39 : tsz Tryd.prog 39 = some 1 := rfl
@[go_sem] theorem hasZero_39 : hasZero Tryd.prog 39 = some 1 := rfl
@[go_sem] theorem tby_39 : tby Tryd.prog 39 = some 16 := rfl
@[go_sem] theorem aggT_40 : aggT Tryd.prog 40 = some false := rfl
@[go_sem] theorem tsz_40 : tsz Tryd.prog 40 = some 1 := rfl
@[go_sem] theorem hasZero_40 : hasZero Tryd.prog 40 = some 1 := rfl
@[go_sem] theorem tby_40 : tby Tryd.prog 40 = some 16 := rfl
@[go_sem] theorem aggT_41 : aggT Tryd.prog 41 = some false := rfl
@[go_sem] theorem tsz_41 : tsz Tryd.prog 41 = some 1 := rfl
@[go_sem] theorem hasZero_41 : hasZero Tryd.prog 41 = some 1 := rfl
@[go_sem] theorem tby_41 : tby Tryd.prog 41 = some 8 := rfl
@[go_sem] theorem aggT_42 : aggT Tryd.prog 42 = some false := rfl
@[go_sem] theorem tsz_42 : tsz Tryd.prog 42 = some 1 := rfl
@[go_sem] theorem hasZero_42 : hasZero Tryd.prog 42 = some 1 := rfl
@[go_sem] theorem tby_42 : tby Tryd.prog 42 = some 8 := rfl
@[go_sem] theorem und_43 : Tryd.prog.underlying 43 = some (.int .u64) := rfl
@[go_sem] theorem aggT_43 : aggT Tryd.prog 43 = some false := rfl
@[go_sem] theorem tsz_43 : tsz Tryd.prog 43 = some 1 := rfl
@[go_sem] theorem hasZero_43 : hasZero Tryd.prog 43 = some 1 := rfl
@[go_sem] theorem tby_43 : tby Tryd.prog 43 = some 8 := rfl
@[go_sem] theorem aggT_44 : aggT Tryd.prog 44 = some false := rfl
@[go_sem] theorem tsz_44 : tsz Tryd.prog 44 = some 1 := rfl
@[go_sem] theorem hasZero_44 : hasZero Tryd.prog 44 = some 1 := rfl
@[go_sem] theorem tby_44 : tby Tryd.prog 44 = some 8 := rfl
@[go_sem] theorem aggT_45 : aggT Tryd.prog 45 = some false := rfl
@[go_sem] theorem tsz_45 : tsz Tryd.prog 45 = some 1 := rfl
@[go_sem] theorem hasZero_45 : hasZero Tryd.prog 45 = some 1 := rfl
@[go_sem] theorem tby_45 : tby Tryd.prog 45 = some 8 := rfl
@[go_sem] theorem aggT_46 : aggT Tryd.prog 46 = some false := rfl
@[go_sem] theorem tsz_46 : tsz Tryd.prog 46 = some 1 := rfl
@[go_sem] theorem hasZero_46 : hasZero Tryd.prog 46 = some 1 := rfl
@[go_sem] theorem tby_46 : tby Tryd.prog 46 = some 8 := rfl
@[go_sem] theorem aggT_47 : aggT Tryd.prog 47 = some false := rfl
@[go_sem] theorem tsz_47 : tsz Tryd.prog 47 = some 1 := rfl
@[go_sem] theorem hasZero_47 : hasZero Tryd.prog 47 = some 1 := rfl
@[go_sem] theorem tby_47 : tby Tryd.prog 47 = some 0 := rfl
@[go_sem] theorem aggT_48 : aggT Tryd.prog 48 = some false := rfl
@[go_sem] theorem tsz_48 : tsz Tryd.prog 48 = some 1 := rfl
@[go_sem] theorem hasZero_48 : hasZero Tryd.prog 48 = some 1 := rfl
@[go_sem] theorem tby_48 : tby Tryd.prog 48 = some 8 := rfl
@[go_sem] theorem aggT_49 : aggT Tryd.prog 49 = some false := rfl
@[go_sem] theorem tsz_49 : tsz Tryd.prog 49 = some 1 := rfl
@[go_sem] theorem hasZero_49 : hasZero Tryd.prog 49 = some 1 := rfl
@[go_sem] theorem tby_49 : tby Tryd.prog 49 = some 8 := rfl
@[go_sem] theorem aggT_50 : aggT Tryd.prog 50 = some false := rfl
@[go_sem] theorem tsz_50 : tsz Tryd.prog 50 = some 1 := rfl
@[go_sem] theorem hasZero_50 : hasZero Tryd.prog 50 = some 1 := rfl
@[go_sem] theorem tby_50 : tby Tryd.prog 50 = some 8 := rfl
@[go_sem] theorem aggT_51 : aggT Tryd.prog 51 = some false := rfl
@[go_sem] theorem tsz_51 : tsz Tryd.prog 51 = some 1 := rfl
@[go_sem] theorem hasZero_51 : hasZero Tryd.prog 51 = some 1 := rfl
@[go_sem] theorem tby_51 : tby Tryd.prog 51 = some 0 := rfl
@[go_sem] theorem aggT_52 : aggT Tryd.prog 52 = some false := rfl
@[go_sem] theorem tsz_52 : tsz Tryd.prog 52 = some 1 := rfl
@[go_sem] theorem hasZero_52 : hasZero Tryd.prog 52 = some 1 := rfl
@[go_sem] theorem tby_52 : tby Tryd.prog 52 = some 8 := rfl
@[go_sem] theorem aggT_53 : aggT Tryd.prog 53 = some false := rfl
@[go_sem] theorem tsz_53 : tsz Tryd.prog 53 = some 1 := rfl
@[go_sem] theorem hasZero_53 : hasZero Tryd.prog 53 = some 1 := rfl
@[go_sem] theorem tby_53 : tby Tryd.prog 53 = some 8 := rfl
@[go_sem] theorem aggT_54 : aggT Tryd.prog 54 = some false := rfl
@[go_sem] theorem tsz_54 : tsz Tryd.prog 54 = some 1 := rfl
@[go_sem] theorem hasZero_54 : hasZero Tryd.prog 54 = some 1 := rfl
@[go_sem] theorem tby_54 : tby Tryd.prog 54 = some 8 := rfl
@[go_sem] theorem aggT_55 : aggT Tryd.prog 55 = some false := rfl
@[go_sem] theorem tsz_55 : tsz Tryd.prog 55 = some 1 := rfl
@[go_sem] theorem hasZero_55 : hasZero Tryd.prog 55 = some 1 := rfl
@[go_sem] theorem tby_55 : tby Tryd.prog 55 = some 8 := rfl
@[go_sem] theorem aggT_56 : aggT Tryd.prog 56 = some false := rfl
@[go_sem] theorem tsz_56 : tsz Tryd.prog 56 = some 1 := rfl
@[go_sem] theorem hasZero_56 : hasZero Tryd.prog 56 = some 1 := rfl
@[go_sem] theorem tby_56 : tby Tryd.prog 56 = some 8 := rfl
@[go_sem] theorem aggT_57 : aggT Tryd.prog 57 = some false := rfl
@[go_sem] theorem tsz_57 : tsz Tryd.prog 57 = some 1 := rfl
@[go_sem] theorem hasZero_57 : hasZero Tryd.prog 57 = some 1 := rfl
@[go_sem] theorem tby_57 : tby Tryd.prog 57 = some 8 := rfl
@[go_sem] theorem und_58 : Tryd.prog.underlying 58 = some (.pointer 5) := rfl
@[go_sem] theorem aggT_58 : aggT Tryd.prog 58 = some false := rfl
@[go_sem] theorem tsz_58 : tsz Tryd.prog 58 = some 1 := rfl
@[go_sem] theorem hasZero_58 : hasZero Tryd.prog 58 = some 1 := rfl
@[go_sem] theorem tby_58 : tby Tryd.prog 58 = some 8 := rfl
@[go_sem] theorem aggT_59 : aggT Tryd.prog 59 = some false := rfl
@[go_sem] theorem tsz_59 : tsz Tryd.prog 59 = some 1 := rfl
@[go_sem] theorem hasZero_59 : hasZero Tryd.prog 59 = some 1 := rfl
@[go_sem] theorem tby_59 : tby Tryd.prog 59 = some 8 := rfl
@[go_sem] theorem aggT_60 : aggT Tryd.prog 60 = some true := rfl
@[go_sem] theorem tsz_60 : tsz Tryd.prog 60 = some 256 := rfl
@[go_sem] theorem tby_60 : tby Tryd.prog 60 = some 256 := rfl
@[go_sem] theorem aggT_61 : aggT Tryd.prog 61 = some true := rfl
@[go_sem] theorem tsz_61 : tsz Tryd.prog 61 = some 256 := rfl
@[go_sem] theorem tby_61 : tby Tryd.prog 61 = some 256 := rfl
@[go_sem] theorem aggT_62 : aggT Tryd.prog 62 = some false := rfl
@[go_sem] theorem tsz_62 : tsz Tryd.prog 62 = some 1 := rfl
@[go_sem] theorem hasZero_62 : hasZero Tryd.prog 62 = some 1 := rfl
@[go_sem] theorem tby_62 : tby Tryd.prog 62 = some 0 := rfl
@[go_sem] theorem aggT_63 : aggT Tryd.prog 63 = some false := rfl
@[go_sem] theorem tsz_63 : tsz Tryd.prog 63 = some 1 := rfl
@[go_sem] theorem hasZero_63 : hasZero Tryd.prog 63 = some 1 := rfl
@[go_sem] theorem tby_63 : tby Tryd.prog 63 = some 8 := rfl
@[go_sem] theorem aggT_64 : aggT Tryd.prog 64 = some false := rfl
@[go_sem] theorem tsz_64 : tsz Tryd.prog 64 = some 1 := rfl
@[go_sem] theorem hasZero_64 : hasZero Tryd.prog 64 = some 1 := rfl
@[go_sem] theorem tby_64 : tby Tryd.prog 64 = some 8 := rfl
@[go_sem] theorem und_65 : Tryd.prog.underlying 65 = some (.pointer 61) := rfl
@[go_sem] theorem aggT_65 : aggT Tryd.prog 65 = some false := rfl
@[go_sem] theorem tsz_65 : tsz Tryd.prog 65 = some 1 := rfl
@[go_sem] theorem hasZero_65 : hasZero Tryd.prog 65 = some 1 := rfl
@[go_sem] theorem tby_65 : tby Tryd.prog 65 = some 8 := rfl
@[go_sem] theorem aggT_66 : aggT Tryd.prog 66 = some false := rfl
@[go_sem] theorem tsz_66 : tsz Tryd.prog 66 = some 1 := rfl
@[go_sem] theorem hasZero_66 : hasZero Tryd.prog 66 = some 1 := rfl
@[go_sem] theorem tby_66 : tby Tryd.prog 66 = some 8 := rfl
@[go_sem] theorem und_67 : Tryd.prog.underlying 67 = some (.unsafePointer) := rfl
@[go_sem] theorem aggT_67 : aggT Tryd.prog 67 = some false := rfl
@[go_sem] theorem tsz_67 : tsz Tryd.prog 67 = some 1 := rfl
@[go_sem] theorem hasZero_67 : hasZero Tryd.prog 67 = some 1 := rfl
@[go_sem] theorem tby_67 : tby Tryd.prog 67 = some 8 := rfl
@[go_sem] theorem aggT_68 : aggT Tryd.prog 68 = some false := rfl
@[go_sem] theorem tsz_68 : tsz Tryd.prog 68 = some 1 := rfl
@[go_sem] theorem hasZero_68 : hasZero Tryd.prog 68 = some 1 := rfl
@[go_sem] theorem tby_68 : tby Tryd.prog 68 = some 8 := rfl
@[go_sem] theorem aggT_69 : aggT Tryd.prog 69 = some false := rfl
@[go_sem] theorem tsz_69 : tsz Tryd.prog 69 = some 1 := rfl
@[go_sem] theorem hasZero_69 : hasZero Tryd.prog 69 = some 1 := rfl
@[go_sem] theorem tby_69 : tby Tryd.prog 69 = some 8 := rfl
@[go_sem] theorem aggT_70 : aggT Tryd.prog 70 = some true := rfl
@[go_sem] theorem tsz_70 : tsz Tryd.prog 70 = some 256 := rfl
@[go_sem] theorem tby_70 : tby Tryd.prog 70 = some 256 := rfl
@[go_sem] theorem aggT_71 : aggT Tryd.prog 71 = some true := rfl
@[go_sem] theorem tsz_71 : tsz Tryd.prog 71 = some 2 := rfl
@[go_sem] theorem hasZero_71 : hasZero Tryd.prog 71 = some 2 := rfl
@[go_sem] theorem tby_71 : tby Tryd.prog 71 = some 2 := rfl
@[go_sem] theorem aggT_72 : aggT Tryd.prog 72 = some true := rfl
@[go_sem] theorem tsz_72 : tsz Tryd.prog 72 = some 2 := rfl
@[go_sem] theorem hasZero_72 : hasZero Tryd.prog 72 = some 2 := rfl
@[go_sem] theorem tby_72 : tby Tryd.prog 72 = some 2 := rfl
@[go_sem] theorem aggT_73 : aggT Tryd.prog 73 = some true := rfl
@[go_sem] theorem tsz_73 : tsz Tryd.prog 73 = some 32 := rfl
@[go_sem] theorem hasZero_73 : hasZero Tryd.prog 73 = some 32 := rfl
@[go_sem] theorem tby_73 : tby Tryd.prog 73 = some 32 := rfl
@[go_sem] theorem aggT_74 : aggT Tryd.prog 74 = some false := rfl
@[go_sem] theorem tsz_74 : tsz Tryd.prog 74 = some 1 := rfl
@[go_sem] theorem hasZero_74 : hasZero Tryd.prog 74 = some 1 := rfl
@[go_sem] theorem tby_74 : tby Tryd.prog 74 = some 8 := rfl
@[go_sem] theorem aggT_75 : aggT Tryd.prog 75 = some false := rfl
@[go_sem] theorem tsz_75 : tsz Tryd.prog 75 = some 1 := rfl
@[go_sem] theorem hasZero_75 : hasZero Tryd.prog 75 = some 1 := rfl
@[go_sem] theorem tby_75 : tby Tryd.prog 75 = some 8 := rfl
@[go_sem] theorem aggT_76 : aggT Tryd.prog 76 = some false := rfl
@[go_sem] theorem tsz_76 : tsz Tryd.prog 76 = some 1 := rfl
@[go_sem] theorem hasZero_76 : hasZero Tryd.prog 76 = some 1 := rfl
@[go_sem] theorem tby_76 : tby Tryd.prog 76 = some 8 := rfl
@[go_sem] theorem und_77 : Tryd.prog.underlying 77 = some (.int .u32) := rfl
@[go_sem] theorem aggT_77 : aggT Tryd.prog 77 = some false := rfl
@[go_sem] theorem tsz_77 : tsz Tryd.prog 77 = some 1 := rfl
@[go_sem] theorem hasZero_77 : hasZero Tryd.prog 77 = some 1 := rfl
@[go_sem] theorem tby_77 : tby Tryd.prog 77 = some 4 := rfl
@[go_sem] theorem aggT_78 : aggT Tryd.prog 78 = some false := rfl
@[go_sem] theorem tsz_78 : tsz Tryd.prog 78 = some 1 := rfl
@[go_sem] theorem hasZero_78 : hasZero Tryd.prog 78 = some 1 := rfl
@[go_sem] theorem tby_78 : tby Tryd.prog 78 = some 0 := rfl
@[go_sem] theorem aggT_79 : aggT Tryd.prog 79 = some false := rfl
@[go_sem] theorem tsz_79 : tsz Tryd.prog 79 = some 1 := rfl
@[go_sem] theorem hasZero_79 : hasZero Tryd.prog 79 = some 1 := rfl
@[go_sem] theorem tby_79 : tby Tryd.prog 79 = some 8 := rfl
@[go_sem] theorem aggT_80 : aggT Tryd.prog 80 = some true := rfl
@[go_sem] theorem tsz_80 : tsz Tryd.prog 80 = some 4 := rfl
@[go_sem] theorem hasZero_80 : hasZero Tryd.prog 80 = some 4 := rfl
@[go_sem] theorem tby_80 : tby Tryd.prog 80 = some 40 := rfl
@[go_sem] theorem aggT_81 : aggT Tryd.prog 81 = some true := rfl
@[go_sem] theorem tsz_81 : tsz Tryd.prog 81 = some 4 := rfl
@[go_sem] theorem hasZero_81 : hasZero Tryd.prog 81 = some 4 := rfl
@[go_sem] theorem tby_81 : tby Tryd.prog 81 = some 40 := rfl
@[go_sem] theorem aggT_82 : aggT Tryd.prog 82 = some true := rfl
@[go_sem] theorem tsz_82 : tsz Tryd.prog 82 = some 0 := rfl
@[go_sem] theorem hasZero_82 : hasZero Tryd.prog 82 = some 0 := rfl
@[go_sem] theorem tby_82 : tby Tryd.prog 82 = some 0 := rfl
@[go_sem] theorem aggT_83 : aggT Tryd.prog 83 = some true := rfl
@[go_sem] theorem tsz_83 : tsz Tryd.prog 83 = some 0 := rfl
@[go_sem] theorem hasZero_83 : hasZero Tryd.prog 83 = some 0 := rfl
@[go_sem] theorem tby_83 : tby Tryd.prog 83 = some 0 := rfl
@[go_sem] theorem aggT_84 : aggT Tryd.prog 84 = some true := rfl
@[go_sem] theorem tsz_84 : tsz Tryd.prog 84 = some 0 := rfl
@[go_sem] theorem hasZero_84 : hasZero Tryd.prog 84 = some 0 := rfl
@[go_sem] theorem tby_84 : tby Tryd.prog 84 = some 0 := rfl
@[go_sem] theorem und_85 : Tryd.prog.underlying 85 = some (.int .u8) := rfl
@[go_sem] theorem aggT_85 : aggT Tryd.prog 85 = some false := rfl
@[go_sem] theorem tsz_85 : tsz Tryd.prog 85 = some 1 := rfl
@[go_sem] theorem hasZero_85 : hasZero Tryd.prog 85 = some 1 := rfl
@[go_sem] theorem tby_85 : tby Tryd.prog 85 = some 1 := rfl
@[go_sem] theorem und_86 : Tryd.prog.underlying 86 = some (.int .u8) := rfl
@[go_sem] theorem aggT_86 : aggT Tryd.prog 86 = some false := rfl
@[go_sem] theorem tsz_86 : tsz Tryd.prog 86 = some 1 := rfl
@[go_sem] theorem hasZero_86 : hasZero Tryd.prog 86 = some 1 := rfl
@[go_sem] theorem tby_86 : tby Tryd.prog 86 = some 1 := rfl
@[go_sem] theorem aggT_87 : aggT Tryd.prog 87 = some false := rfl
@[go_sem] theorem tsz_87 : tsz Tryd.prog 87 = some 1 := rfl
@[go_sem] theorem hasZero_87 : hasZero Tryd.prog 87 = some 1 := rfl
@[go_sem] theorem tby_87 : tby Tryd.prog 87 = some 8 := rfl
@[go_sem] theorem und_88 : Tryd.prog.underlying 88 = some (.int .i32) := rfl
@[go_sem] theorem aggT_88 : aggT Tryd.prog 88 = some false := rfl
@[go_sem] theorem tsz_88 : tsz Tryd.prog 88 = some 1 := rfl
@[go_sem] theorem hasZero_88 : hasZero Tryd.prog 88 = some 1 := rfl
@[go_sem] theorem tby_88 : tby Tryd.prog 88 = some 4 := rfl
@[go_sem] theorem und_89 : Tryd.prog.underlying 89 = some (.int .i32) := rfl
@[go_sem] theorem aggT_89 : aggT Tryd.prog 89 = some false := rfl
@[go_sem] theorem tsz_89 : tsz Tryd.prog 89 = some 1 := rfl
@[go_sem] theorem hasZero_89 : hasZero Tryd.prog 89 = some 1 := rfl
@[go_sem] theorem tby_89 : tby Tryd.prog 89 = some 4 := rfl
@[go_sem high] theorem fa_7_0 (id g i c : Nat) : aFieldAddr Tryd.prog 7 (.ptr id g i c) 0 = some (True, .ptr id g i (c + 0)) := fieldAddr_ptr (n := 0) rfl id g i c
@[go_sem high] theorem fa_7_1 (id g i c : Nat) : aFieldAddr Tryd.prog 7 (.ptr id g i c) 1 = some (True, .ptr id g i (c + 1)) := fieldAddr_ptr (n := 0) rfl id g i c
@[go_sem high] theorem fa_7_2 (id g i c : Nat) : aFieldAddr Tryd.prog 7 (.ptr id g i c) 2 = some (True, .ptr id g i (c + 2)) := fieldAddr_ptr (n := 0) rfl id g i c
@[go_sem high] theorem fa_7_3 (id g i c : Nat) : aFieldAddr Tryd.prog 7 (.ptr id g i c) 3 = some (True, .ptr id g i (c + 3)) := fieldAddr_ptr (n := 0) rfl id g i c
@[go_sem high] theorem fa_8_0 (id g i c : Nat) : aFieldAddr Tryd.prog 8 (.ptr id g i c) 0 = some (True, .ptr id g i (c + 0)) := fieldAddr_ptr (n := 0) rfl id g i c
@[go_sem high] theorem fa_8_1 (id g i c : Nat) : aFieldAddr Tryd.prog 8 (.ptr id g i c) 1 = some (True, .ptr id g i (c + 1)) := fieldAddr_ptr (n := 0) rfl id g i c
@[go_sem high] theorem fa_8_2 (id g i c : Nat) : aFieldAddr Tryd.prog 8 (.ptr id g i c) 2 = some (True, .ptr id g i (c + 2)) := fieldAddr_ptr (n := 0) rfl id g i c
@[go_sem high] theorem fa_8_3 (id g i c : Nat) : aFieldAddr Tryd.prog 8 (.ptr id g i c) 3 = some (True, .ptr id g i (c + 3)) := fieldAddr_ptr (n := 0) rfl id g i c
@[go_sem high] theorem fa_13_0 (id g i c : Nat) : aFieldAddr Tryd.prog 13 (.ptr id g i c) 0 = some (True, .ptr id g i (c + 0)) := fieldAddr_ptr (n := 0) rfl id g i c
@[go_sem high] theorem fa_13_1 (id g i c : Nat) : aFieldAddr Tryd.prog 13 (.ptr id g i c) 1 = some (True, .ptr id g i (c + 1)) := fieldAddr_ptr (n := 0) rfl id g i c
@[go_sem high] theorem fa_14_0 (id g i c : Nat) : aFieldAddr Tryd.prog 14 (.ptr id g i c) 0 = some (True, .ptr id g i (c + 0)) := fieldAddr_ptr (n := 0) rfl id g i c
@[go_sem high] theorem fa_14_1 (id g i c : Nat) : aFieldAddr Tryd.prog 14 (.ptr id g i c) 1 = some (True, .ptr id g i (c + 1)) := fieldAddr_ptr (n := 0) rfl id g i c
@[go_sem high] theorem fa_18_0 (id g i c : Nat) : aFieldAddr Tryd.prog 18 (.ptr id g i c) 0 = some (True, .ptr id g i (c + 0)) := fieldAddr_ptr (n := 0) rfl id g i c
@[go_sem high] theorem fa_19_0 (id g i c : Nat) : aFieldAddr Tryd.prog 19 (.ptr id g i c) 0 = some (True, .ptr id g i (c + 0)) := fieldAddr_ptr (n := 0) rfl id g i c
@[go_sem high] theorem fa_37_0 (id g i c : Nat) : aFieldAddr Tryd.prog 37 (.ptr id g i c) 0 = some (True, .ptr id g i (c + 0)) := fieldAddr_ptr (n := 0) rfl id g i c
@[go_sem high] theorem fa_37_1 (id g i c : Nat) : aFieldAddr Tryd.prog 37 (.ptr id g i c) 1 = some (True, .ptr id g i (c + 1)) := fieldAddr_ptr (n := 0) rfl id g i c
@[go_sem high] theorem fa_38_0 (id g i c : Nat) : aFieldAddr Tryd.prog 38 (.ptr id g i c) 0 = some (True, .ptr id g i (c + 0)) := fieldAddr_ptr (n := 0) rfl id g i c
@[go_sem high] theorem fa_38_1 (id g i c : Nat) : aFieldAddr Tryd.prog 38 (.ptr id g i c) 1 = some (True, .ptr id g i (c + 1)) := fieldAddr_ptr (n := 0) rfl id g i c
@[go_sem high] theorem fa_71_0 (id g i c : Nat) : aFieldAddr Tryd.prog 71 (.ptr id g i c) 0 = some (True, .ptr id g i (c + 0)) := fieldAddr_ptr (n := 0) rfl id g i c
@[go_sem high] theorem fa_71_1 (id g i c : Nat) : aFieldAddr Tryd.prog 71 (.ptr id g i c) 1 = some (True, .ptr id g i (c + 1)) := fieldAddr_ptr (n := 0) rfl id g i c
@[go_sem high] theorem fa_72_0 (id g i c : Nat) : aFieldAddr Tryd.prog 72 (.ptr id g i c) 0 = some (True, .ptr id g i (c + 0)) := fieldAddr_ptr (n := 0) rfl id g i c
@[go_sem high] theorem fa_72_1 (id g i c : Nat) : aFieldAddr Tryd.prog 72 (.ptr id g i c) 1 = some (True, .ptr id g i (c + 1)) := fieldAddr_ptr (n := 0) rfl id g i c
@[go_sem high] theorem fa_80_0 (id g i c : Nat) : aFieldAddr Tryd.prog 80 (.ptr id g i c) 0 = some (True, .ptr id g i (c + 0)) := fieldAddr_ptr (n := 0) rfl id g i c
@[go_sem high] theorem fa_80_1 (id g i c : Nat) : aFieldAddr Tryd.prog 80 (.ptr id g i c) 1 = some (True, .ptr id g i (c + 1)) := fieldAddr_ptr (n := 0) rfl id g i c
@[go_sem high] theorem fa_80_2 (id g i c : Nat) : aFieldAddr Tryd.prog 80 (.ptr id g i c) 2 = some (True, .ptr id g i (c + 2)) := fieldAddr_ptr (n := 0) rfl id g i c
@[go_sem high] theorem fa_80_3 (id g i c : Nat) : aFieldAddr Tryd.prog 80 (.ptr id g i c) 3 = some (True, .ptr id g i (c + 3)) := fieldAddr_ptr (n := 0) rfl id g i c
@[go_sem high] theorem fa_81_0 (id g i c : Nat) : aFieldAddr Tryd.prog 81 (.ptr id g i c) 0 = some (True, .ptr id g i (c + 0)) := fieldAddr_ptr (n := 0) rfl id g i c
@[go_sem high] theorem fa_81_1 (id g i c : Nat) : aFieldAddr Tryd.prog 81 (.ptr id g i c) 1 = some (True, .ptr id g i (c + 1)) := fieldAddr_ptr (n := 0) rfl id g i c
@[go_sem high] theorem fa_81_2 (id g i c : Nat) : aFieldAddr Tryd.prog 81 (.ptr id g i c) 2 = some (True, .ptr id g i (c + 2)) := fieldAddr_ptr (n := 0) rfl id g i c
@[go_sem high] theorem fa_81_3 (id g i c : Nat) : aFieldAddr Tryd.prog 81 (.ptr id g i c) 3 = some (True, .ptr id g i (c + 3)) := fieldAddr_ptr (n := 0) rfl id g i c
end Go.Almanac
