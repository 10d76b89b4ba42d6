/-
  PRINTED BY wip/c33/againlex.py: region 21 of CaltokAgain may be walked in the order of its text. No condition.
-/
import Derived.Test.YtmmkbdampdkjoaaDoorAllx0
import Derived.BigQuiet
namespace Go.Proofs.YtmmkbdampdkjoaaDoor.All
open Go.RowKit Go.Proofs.YtmmkbdampdkjoaaDoorW.PrintWords Go.Proofs.YtmmkbdampdkjoaaDoorW.PrintLast Go.Proofs.YtmmkbdampdkjoaaDoorW.PrintMore
set_option maxRecDepth 100000

def lis (k : Nat) : Array Bool := (List.replicate k true ++ List.replicate (108 - k) false).toArray
theorem lex_size : (opsOf Tryd.f4 21).size = 108 := by kernel_rfl
theorem lex_select : Region.noSelect (opsOf Tryd.f4 21) = true := by kernel_rfl
theorem lex_step (md : Region.Mode) (ops : Array Oper) (fuel k : Nat) (l l' : Array Bool) (h1 : (Region.ready md ops l).contains k = true) (h2 : Region.free md ops l k = true) (hl : l.setIfInBounds k true = l') (h3 : Region.lexFrom md ops fuel (k + 1) l' = true) :
    Region.lexFrom md ops (fuel + 1) k l = true := by
  rw [Region.lexFrom, h1, h2, hl, h3]
  rfl
theorem lex_108 : Region.lexFrom .any (opsOf Tryd.f4 21) 0 108 (lis 108) = true := by kernel_rfl
theorem lexr_0 : (Region.ready .any (opsOf Tryd.f4 21) (lis 0)).contains 0 = true := by kernel_rfl
theorem lexf_0 : Region.free .any (opsOf Tryd.f4 21) (lis 0) 0 = true := by kernel_rfl
theorem lexr_1 : (Region.ready .any (opsOf Tryd.f4 21) (lis 1)).contains 1 = true := by kernel_rfl
theorem lexf_1 : Region.free .any (opsOf Tryd.f4 21) (lis 1) 1 = true := by kernel_rfl
theorem lexr_2 : (Region.ready .any (opsOf Tryd.f4 21) (lis 2)).contains 2 = true := by kernel_rfl
theorem lexf_2 : Region.free .any (opsOf Tryd.f4 21) (lis 2) 2 = true := by kernel_rfl
theorem lexr_3 : (Region.ready .any (opsOf Tryd.f4 21) (lis 3)).contains 3 = true := by kernel_rfl
theorem lexf_3 : Region.free .any (opsOf Tryd.f4 21) (lis 3) 3 = true := by kernel_rfl
theorem lexr_4 : (Region.ready .any (opsOf Tryd.f4 21) (lis 4)).contains 4 = true := by kernel_rfl
theorem lexf_4 : Region.free .any (opsOf Tryd.f4 21) (lis 4) 4 = true := by kernel_rfl
theorem lexr_5 : (Region.ready .any (opsOf Tryd.f4 21) (lis 5)).contains 5 = true := by kernel_rfl
theorem lexf_5 : Region.free .any (opsOf Tryd.f4 21) (lis 5) 5 = true := by kernel_rfl
theorem lexr_6 : (Region.ready .any (opsOf Tryd.f4 21) (lis 6)).contains 6 = true := by kernel_rfl
theorem lexf_6 : Region.free .any (opsOf Tryd.f4 21) (lis 6) 6 = true := by kernel_rfl
theorem lexr_7 : (Region.ready .any (opsOf Tryd.f4 21) (lis 7)).contains 7 = true := by kernel_rfl
theorem lexf_7 : Region.free .any (opsOf Tryd.f4 21) (lis 7) 7 = true := by kernel_rfl
theorem lexr_8 : (Region.ready .any (opsOf Tryd.f4 21) (lis 8)).contains 8 = true := by kernel_rfl
theorem lexf_8 : Region.free .any (opsOf Tryd.f4 21) (lis 8) 8 = true := by kernel_rfl
theorem lexr_9 : (Region.ready .any (opsOf Tryd.f4 21) (lis 9)).contains 9 = true := by kernel_rfl
theorem lexf_9 : Region.free .any (opsOf Tryd.f4 21) (lis 9) 9 = true := by kernel_rfl
theorem lexr_10 : (Region.ready .any (opsOf Tryd.f4 21) (lis 10)).contains 10 = true := by kernel_rfl
theorem lexf_10 : Region.free .any (opsOf Tryd.f4 21) (lis 10) 10 = true := by kernel_rfl
theorem lexr_11 : (Region.ready .any (opsOf Tryd.f4 21) (lis 11)).contains 11 = true := by kernel_rfl
theorem lexf_11 : Region.free .any (opsOf Tryd.f4 21) (lis 11) 11 = true := by kernel_rfl
theorem lexr_12 : (Region.ready .any (opsOf Tryd.f4 21) (lis 12)).contains 12 = true := by kernel_rfl
theorem lexf_12 : Region.free .any (opsOf Tryd.f4 21) (lis 12) 12 = true := by kernel_rfl
theorem lexr_13 : (Region.ready .any (opsOf Tryd.f4 21) (lis 13)).contains 13 = true := by kernel_rfl
theorem lexf_13 : Region.free .any (opsOf Tryd.f4 21) (lis 13) 13 = true := by kernel_rfl
theorem lexr_14 : (Region.ready .any (opsOf Tryd.f4 21) (lis 14)).contains 14 = true := by kernel_rfl
theorem lexf_14 : Region.free .any (opsOf Tryd.f4 21) (lis 14) 14 = true := by kernel_rfl
theorem lexr_15 : (Region.ready .any (opsOf Tryd.f4 21) (lis 15)).contains 15 = true := by kernel_rfl
theorem lexf_15 : Region.free .any (opsOf Tryd.f4 21) (lis 15) 15 = true := by kernel_rfl
theorem lexr_16 : (Region.ready .any (opsOf Tryd.f4 21) (lis 16)).contains 16 = true := by kernel_rfl
theorem lexf_16 : Region.free .any (opsOf Tryd.f4 21) (lis 16) 16 = true := by kernel_rfl
theorem lexr_17 : (Region.ready .any (opsOf Tryd.f4 21) (lis 17)).contains 17 = true := by kernel_rfl
theorem lexf_17 : Region.free .any (opsOf Tryd.f4 21) (lis 17) 17 = true := by kernel_rfl
theorem lexr_18 : (Region.ready .any (opsOf Tryd.f4 21) (lis 18)).contains 18 = true := by kernel_rfl
theorem lexf_18 : Region.free .any (opsOf Tryd.f4 21) (lis 18) 18 = true := by kernel_rfl
theorem lexr_19 : (Region.ready .any (opsOf Tryd.f4 21) (lis 19)).contains 19 = true := by kernel_rfl
theorem lexf_19 : Region.free .any (opsOf Tryd.f4 21) (lis 19) 19 = true := by kernel_rfl
theorem lexr_20 : (Region.ready .any (opsOf Tryd.f4 21) (lis 20)).contains 20 = true := by kernel_rfl
theorem lexf_20 : Region.free .any (opsOf Tryd.f4 21) (lis 20) 20 = true := by kernel_rfl
theorem lexr_21 : (Region.ready .any (opsOf Tryd.f4 21) (lis 21)).contains 21 = true := by kernel_rfl
theorem lexf_21 : Region.free .any (opsOf Tryd.f4 21) (lis 21) 21 = true := by kernel_rfl
theorem lexr_22 : (Region.ready .any (opsOf Tryd.f4 21) (lis 22)).contains 22 = true := by kernel_rfl
theorem lexf_22 : Region.free .any (opsOf Tryd.f4 21) (lis 22) 22 = true := by kernel_rfl
theorem lexr_23 : (Region.ready .any (opsOf Tryd.f4 21) (lis 23)).contains 23 = true := by kernel_rfl
theorem lexf_23 : Region.free .any (opsOf Tryd.f4 21) (lis 23) 23 = true := by kernel_rfl
theorem lexr_24 : (Region.ready .any (opsOf Tryd.f4 21) (lis 24)).contains 24 = true := by kernel_rfl
theorem lexf_24 : Region.free .any (opsOf Tryd.f4 21) (lis 24) 24 = true := by kernel_rfl
theorem lexr_25 : (Region.ready .any (opsOf Tryd.f4 21) (lis 25)).contains 25 = true := by kernel_rfl
theorem lexf_25 : Region.free .any (opsOf Tryd.f4 21) (lis 25) 25 = true := by kernel_rfl
theorem lexr_26 : (Region.ready .any (opsOf Tryd.f4 21) (lis 26)).contains 26 = true := by kernel_rfl
theorem lexf_26 : Region.free .any (opsOf Tryd.f4 21) (lis 26) 26 = true := by kernel_rfl
theorem lexr_27 : (Region.ready .any (opsOf Tryd.f4 21) (lis 27)).contains 27 = true := by kernel_rfl
theorem lexf_27 : Region.free .any (opsOf Tryd.f4 21) (lis 27) 27 = true := by kernel_rfl
theorem lexr_28 : (Region.ready .any (opsOf Tryd.f4 21) (lis 28)).contains 28 = true := by kernel_rfl
theorem lexf_28 : Region.free .any (opsOf Tryd.f4 21) (lis 28) 28 = true := by kernel_rfl
theorem lexr_29 : (Region.ready .any (opsOf Tryd.f4 21) (lis 29)).contains 29 = true := by kernel_rfl
theorem lexf_29 : Region.free .any (opsOf Tryd.f4 21) (lis 29) 29 = true := by kernel_rfl
theorem lexr_30 : (Region.ready .any (opsOf Tryd.f4 21) (lis 30)).contains 30 = true := by kernel_rfl
theorem lexf_30 : Region.free .any (opsOf Tryd.f4 21) (lis 30) 30 = true := by kernel_rfl
theorem lexr_31 : (Region.ready .any (opsOf Tryd.f4 21) (lis 31)).contains 31 = true := by kernel_rfl
theorem lexf_31 : Region.free .any (opsOf Tryd.f4 21) (lis 31) 31 = true := by kernel_rfl
theorem lexr_32 : (Region.ready .any (opsOf Tryd.f4 21) (lis 32)).contains 32 = true := by kernel_rfl
theorem lexf_32 : Region.free .any (opsOf Tryd.f4 21) (lis 32) 32 = true := by kernel_rfl
theorem lexr_33 : (Region.ready .any (opsOf Tryd.f4 21) (lis 33)).contains 33 = true := by kernel_rfl
theorem lexf_33 : Region.free .any (opsOf Tryd.f4 21) (lis 33) 33 = true := by kernel_rfl
theorem lexr_34 : (Region.ready .any (opsOf Tryd.f4 21) (lis 34)).contains 34 = true := by kernel_rfl
theorem lexf_34 : Region.free .any (opsOf Tryd.f4 21) (lis 34) 34 = true := by kernel_rfl
theorem lexr_35 : (Region.ready .any (opsOf Tryd.f4 21) (lis 35)).contains 35 = true := by kernel_rfl
theorem lexf_35 : Region.free .any (opsOf Tryd.f4 21) (lis 35) 35 = true := by kernel_rfl
theorem lexr_36 : (Region.ready .any (opsOf Tryd.f4 21) (lis 36)).contains 36 = true := by kernel_rfl
theorem lexf_36 : Region.free .any (opsOf Tryd.f4 21) (lis 36) 36 = true := by kernel_rfl
theorem lexr_37 : (Region.ready .any (opsOf Tryd.f4 21) (lis 37)).contains 37 = true := by kernel_rfl
theorem lexf_37 : Region.free .any (opsOf Tryd.f4 21) (lis 37) 37 = true := by kernel_rfl
theorem lexr_38 : (Region.ready .any (opsOf Tryd.f4 21) (lis 38)).contains 38 = true := by kernel_rfl
theorem lexf_38 : Region.free .any (opsOf Tryd.f4 21) (lis 38) 38 = true := by kernel_rfl
theorem lexr_39 : (Region.ready .any (opsOf Tryd.f4 21) (lis 39)).contains 39 = true := by kernel_rfl
theorem lexf_39 : Region.free .any (opsOf Tryd.f4 21) (lis 39) 39 = true := by kernel_rfl
theorem lexr_40 : (Region.ready .any (opsOf Tryd.f4 21) (lis 40)).contains 40 = true := by kernel_rfl
theorem lexf_40 : Region.free .any (opsOf Tryd.f4 21) (lis 40) 40 = true := by kernel_rfl
theorem lexr_41 : (Region.ready .any (opsOf Tryd.f4 21) (lis 41)).contains 41 = true := by kernel_rfl
theorem lexf_41 : Region.free .any (opsOf Tryd.f4 21) (lis 41) 41 = true := by kernel_rfl
theorem lexr_42 : (Region.ready .any (opsOf Tryd.f4 21) (lis 42)).contains 42 = true := by kernel_rfl
theorem lexf_42 : Region.free .any (opsOf Tryd.f4 21) (lis 42) 42 = true := by kernel_rfl
theorem lexr_43 : (Region.ready .any (opsOf Tryd.f4 21) (lis 43)).contains 43 = true := by kernel_rfl
theorem lexf_43 : Region.free .any (opsOf Tryd.f4 21) (lis 43) 43 = true := by kernel_rfl
theorem lexr_44 : (Region.ready .any (opsOf Tryd.f4 21) (lis 44)).contains 44 = true := by kernel_rfl
theorem lexf_44 : Region.free .any (opsOf Tryd.f4 21) (lis 44) 44 = true := by kernel_rfl
theorem lexr_45 : (Region.ready .any (opsOf Tryd.f4 21) (lis 45)).contains 45 = true := by kernel_rfl
theorem lexf_45 : Region.free .any (opsOf Tryd.f4 21) (lis 45) 45 = true := by kernel_rfl
theorem lexr_46 : (Region.ready .any (opsOf Tryd.f4 21) (lis 46)).contains 46 = true := by kernel_rfl
theorem lexf_46 : Region.free .any (opsOf Tryd.f4 21) (lis 46) 46 = true := by kernel_rfl
theorem lexr_47 : (Region.ready .any (opsOf Tryd.f4 21) (lis 47)).contains 47 = true := by kernel_rfl
theorem lexf_47 : Region.free .any (opsOf Tryd.f4 21) (lis 47) 47 = true := by kernel_rfl
theorem lexr_48 : (Region.ready .any (opsOf Tryd.f4 21) (lis 48)).contains 48 = true := by kernel_rfl
theorem lexf_48 : Region.free .any (opsOf Tryd.f4 21) (lis 48) 48 = true := by kernel_rfl
theorem lexr_49 : (Region.ready .any (opsOf Tryd.f4 21) (lis 49)).contains 49 = true := by kernel_rfl
theorem lexf_49 : Region.free .any (opsOf Tryd.f4 21) (lis 49) 49 = true := by kernel_rfl
theorem lexr_50 : (Region.ready .any (opsOf Tryd.f4 21) (lis 50)).contains 50 = true := by kernel_rfl
theorem lexf_50 : Region.free .any (opsOf Tryd.f4 21) (lis 50) 50 = true := by kernel_rfl
theorem lexr_51 : (Region.ready .any (opsOf Tryd.f4 21) (lis 51)).contains 51 = true := by kernel_rfl
theorem lexf_51 : Region.free .any (opsOf Tryd.f4 21) (lis 51) 51 = true := by kernel_rfl
theorem lexr_52 : (Region.ready .any (opsOf Tryd.f4 21) (lis 52)).contains 52 = true := by kernel_rfl
theorem lexf_52 : Region.free .any (opsOf Tryd.f4 21) (lis 52) 52 = true := by kernel_rfl
theorem lexr_53 : (Region.ready .any (opsOf Tryd.f4 21) (lis 53)).contains 53 = true := by kernel_rfl
theorem lexf_53 : Region.free .any (opsOf Tryd.f4 21) (lis 53) 53 = true := by kernel_rfl
theorem lexr_54 : (Region.ready .any (opsOf Tryd.f4 21) (lis 54)).contains 54 = true := by kernel_rfl
theorem lexf_54 : Region.free .any (opsOf Tryd.f4 21) (lis 54) 54 = true := by kernel_rfl
theorem lexr_55 : (Region.ready .any (opsOf Tryd.f4 21) (lis 55)).contains 55 = true := by kernel_rfl
theorem lexf_55 : Region.free .any (opsOf Tryd.f4 21) (lis 55) 55 = true := by kernel_rfl
theorem lexr_56 : (Region.ready .any (opsOf Tryd.f4 21) (lis 56)).contains 56 = true := by kernel_rfl
theorem lexf_56 : Region.free .any (opsOf Tryd.f4 21) (lis 56) 56 = true := by kernel_rfl
theorem lexr_57 : (Region.ready .any (opsOf Tryd.f4 21) (lis 57)).contains 57 = true := by kernel_rfl
theorem lexf_57 : Region.free .any (opsOf Tryd.f4 21) (lis 57) 57 = true := by kernel_rfl
theorem lexr_58 : (Region.ready .any (opsOf Tryd.f4 21) (lis 58)).contains 58 = true := by kernel_rfl
theorem lexf_58 : Region.free .any (opsOf Tryd.f4 21) (lis 58) 58 = true := by kernel_rfl
theorem lexr_59 : (Region.ready .any (opsOf Tryd.f4 21) (lis 59)).contains 59 = true := by kernel_rfl
theorem lexf_59 : Region.free .any (opsOf Tryd.f4 21) (lis 59) 59 = true := by kernel_rfl
theorem lexr_60 : (Region.ready .any (opsOf Tryd.f4 21) (lis 60)).contains 60 = true := by kernel_rfl
theorem lexf_60 : Region.free .any (opsOf Tryd.f4 21) (lis 60) 60 = true := by kernel_rfl
theorem lexr_61 : (Region.ready .any (opsOf Tryd.f4 21) (lis 61)).contains 61 = true := by kernel_rfl
theorem lexf_61 : Region.free .any (opsOf Tryd.f4 21) (lis 61) 61 = true := by kernel_rfl
theorem lexr_62 : (Region.ready .any (opsOf Tryd.f4 21) (lis 62)).contains 62 = true := by kernel_rfl
theorem lexf_62 : Region.free .any (opsOf Tryd.f4 21) (lis 62) 62 = true := by kernel_rfl
theorem lexr_63 : (Region.ready .any (opsOf Tryd.f4 21) (lis 63)).contains 63 = true := by kernel_rfl
theorem lexf_63 : Region.free .any (opsOf Tryd.f4 21) (lis 63) 63 = true := by kernel_rfl
theorem lexr_64 : (Region.ready .any (opsOf Tryd.f4 21) (lis 64)).contains 64 = true := by kernel_rfl
theorem lexf_64 : Region.free .any (opsOf Tryd.f4 21) (lis 64) 64 = true := by kernel_rfl
theorem lexr_65 : (Region.ready .any (opsOf Tryd.f4 21) (lis 65)).contains 65 = true := by kernel_rfl
theorem lexf_65 : Region.free .any (opsOf Tryd.f4 21) (lis 65) 65 = true := by kernel_rfl
theorem lexr_66 : (Region.ready .any (opsOf Tryd.f4 21) (lis 66)).contains 66 = true := by kernel_rfl
theorem lexf_66 : Region.free .any (opsOf Tryd.f4 21) (lis 66) 66 = true := by kernel_rfl
theorem lexr_67 : (Region.ready .any (opsOf Tryd.f4 21) (lis 67)).contains 67 = true := by kernel_rfl
theorem lexf_67 : Region.free .any (opsOf Tryd.f4 21) (lis 67) 67 = true := by kernel_rfl
theorem lexr_68 : (Region.ready .any (opsOf Tryd.f4 21) (lis 68)).contains 68 = true := by kernel_rfl
theorem lexf_68 : Region.free .any (opsOf Tryd.f4 21) (lis 68) 68 = true := by kernel_rfl
theorem lexr_69 : (Region.ready .any (opsOf Tryd.f4 21) (lis 69)).contains 69 = true := by kernel_rfl
theorem lexf_69 : Region.free .any (opsOf Tryd.f4 21) (lis 69) 69 = true := by kernel_rfl
theorem lexr_70 : (Region.ready .any (opsOf Tryd.f4 21) (lis 70)).contains 70 = true := by kernel_rfl
theorem lexf_70 : Region.free .any (opsOf Tryd.f4 21) (lis 70) 70 = true := by kernel_rfl
theorem lexr_71 : (Region.ready .any (opsOf Tryd.f4 21) (lis 71)).contains 71 = true := by kernel_rfl
theorem lexf_71 : Region.free .any (opsOf Tryd.f4 21) (lis 71) 71 = true := by kernel_rfl
theorem lexr_72 : (Region.ready .any (opsOf Tryd.f4 21) (lis 72)).contains 72 = true := by kernel_rfl
theorem lexf_72 : Region.free .any (opsOf Tryd.f4 21) (lis 72) 72 = true := by kernel_rfl
theorem lexr_73 : (Region.ready .any (opsOf Tryd.f4 21) (lis 73)).contains 73 = true := by kernel_rfl
theorem lexf_73 : Region.free .any (opsOf Tryd.f4 21) (lis 73) 73 = true := by kernel_rfl
theorem lexr_74 : (Region.ready .any (opsOf Tryd.f4 21) (lis 74)).contains 74 = true := by kernel_rfl
theorem lexf_74 : Region.free .any (opsOf Tryd.f4 21) (lis 74) 74 = true := by kernel_rfl
theorem lexr_75 : (Region.ready .any (opsOf Tryd.f4 21) (lis 75)).contains 75 = true := by kernel_rfl
theorem lexf_75 : Region.free .any (opsOf Tryd.f4 21) (lis 75) 75 = true := by kernel_rfl
theorem lexr_76 : (Region.ready .any (opsOf Tryd.f4 21) (lis 76)).contains 76 = true := by kernel_rfl
theorem lexf_76 : Region.free .any (opsOf Tryd.f4 21) (lis 76) 76 = true := by kernel_rfl
theorem lexr_77 : (Region.ready .any (opsOf Tryd.f4 21) (lis 77)).contains 77 = true := by kernel_rfl
theorem lexf_77 : Region.free .any (opsOf Tryd.f4 21) (lis 77) 77 = true := by kernel_rfl
theorem lexr_78 : (Region.ready .any (opsOf Tryd.f4 21) (lis 78)).contains 78 = true := by kernel_rfl
theorem lexf_78 : Region.free .any (opsOf Tryd.f4 21) (lis 78) 78 = true := by kernel_rfl
theorem lexr_79 : (Region.ready .any (opsOf Tryd.f4 21) (lis 79)).contains 79 = true := by kernel_rfl
theorem lexf_79 : Region.free .any (opsOf Tryd.f4 21) (lis 79) 79 = true := by kernel_rfl
theorem lexr_80 : (Region.ready .any (opsOf Tryd.f4 21) (lis 80)).contains 80 = true := by kernel_rfl
theorem lexf_80 : Region.free .any (opsOf Tryd.f4 21) (lis 80) 80 = true := by kernel_rfl
theorem lexr_81 : (Region.ready .any (opsOf Tryd.f4 21) (lis 81)).contains 81 = true := by kernel_rfl
theorem lexf_81 : Region.free .any (opsOf Tryd.f4 21) (lis 81) 81 = true := by kernel_rfl
theorem lexr_82 : (Region.ready .any (opsOf Tryd.f4 21) (lis 82)).contains 82 = true := by kernel_rfl
theorem lexf_82 : Region.free .any (opsOf Tryd.f4 21) (lis 82) 82 = true := by kernel_rfl
theorem lexr_83 : (Region.ready .any (opsOf Tryd.f4 21) (lis 83)).contains 83 = true := by kernel_rfl
theorem lexf_83 : Region.free .any (opsOf Tryd.f4 21) (lis 83) 83 = true := by kernel_rfl
theorem lexr_84 : (Region.ready .any (opsOf Tryd.f4 21) (lis 84)).contains 84 = true := by kernel_rfl
theorem lexf_84 : Region.free .any (opsOf Tryd.f4 21) (lis 84) 84 = true := by kernel_rfl
theorem lexr_85 : (Region.ready .any (opsOf Tryd.f4 21) (lis 85)).contains 85 = true := by kernel_rfl
theorem lexf_85 : Region.free .any (opsOf Tryd.f4 21) (lis 85) 85 = true := by kernel_rfl
theorem lexr_86 : (Region.ready .any (opsOf Tryd.f4 21) (lis 86)).contains 86 = true := by kernel_rfl
theorem lexf_86 : Region.free .any (opsOf Tryd.f4 21) (lis 86) 86 = true := by kernel_rfl
theorem lexr_87 : (Region.ready .any (opsOf Tryd.f4 21) (lis 87)).contains 87 = true := by kernel_rfl
theorem lexf_87 : Region.free .any (opsOf Tryd.f4 21) (lis 87) 87 = true := by kernel_rfl
theorem lexr_88 : (Region.ready .any (opsOf Tryd.f4 21) (lis 88)).contains 88 = true := by kernel_rfl
theorem lexf_88 : Region.free .any (opsOf Tryd.f4 21) (lis 88) 88 = true := by kernel_rfl
theorem lexr_89 : (Region.ready .any (opsOf Tryd.f4 21) (lis 89)).contains 89 = true := by kernel_rfl
theorem lexf_89 : Region.free .any (opsOf Tryd.f4 21) (lis 89) 89 = true := by kernel_rfl
theorem lexr_90 : (Region.ready .any (opsOf Tryd.f4 21) (lis 90)).contains 90 = true := by kernel_rfl
theorem lexf_90 : Region.free .any (opsOf Tryd.f4 21) (lis 90) 90 = true := by kernel_rfl
theorem lexr_91 : (Region.ready .any (opsOf Tryd.f4 21) (lis 91)).contains 91 = true := by kernel_rfl
theorem lexf_91 : Region.free .any (opsOf Tryd.f4 21) (lis 91) 91 = true := by kernel_rfl
theorem lexr_92 : (Region.ready .any (opsOf Tryd.f4 21) (lis 92)).contains 92 = true := by kernel_rfl
theorem lexf_92 : Region.free .any (opsOf Tryd.f4 21) (lis 92) 92 = true := by kernel_rfl
theorem lexr_93 : (Region.ready .any (opsOf Tryd.f4 21) (lis 93)).contains 93 = true := by kernel_rfl
theorem lexf_93 : Region.free .any (opsOf Tryd.f4 21) (lis 93) 93 = true := by kernel_rfl
theorem lexr_94 : (Region.ready .any (opsOf Tryd.f4 21) (lis 94)).contains 94 = true := by kernel_rfl
theorem lexf_94 : Region.free .any (opsOf Tryd.f4 21) (lis 94) 94 = true := by kernel_rfl
theorem lexr_95 : (Region.ready .any (opsOf Tryd.f4 21) (lis 95)).contains 95 = true := by kernel_rfl
theorem lexf_95 : Region.free .any (opsOf Tryd.f4 21) (lis 95) 95 = true := by kernel_rfl
theorem lexr_96 : (Region.ready .any (opsOf Tryd.f4 21) (lis 96)).contains 96 = true := by kernel_rfl
theorem lexf_96 : Region.free .any (opsOf Tryd.f4 21) (lis 96) 96 = true := by kernel_rfl
theorem lexr_97 : (Region.ready .any (opsOf Tryd.f4 21) (lis 97)).contains 97 = true := by kernel_rfl
theorem lexf_97 : Region.free .any (opsOf Tryd.f4 21) (lis 97) 97 = true := by kernel_rfl
theorem lexr_98 : (Region.ready .any (opsOf Tryd.f4 21) (lis 98)).contains 98 = true := by kernel_rfl
theorem lexf_98 : Region.free .any (opsOf Tryd.f4 21) (lis 98) 98 = true := by kernel_rfl
theorem lexr_99 : (Region.ready .any (opsOf Tryd.f4 21) (lis 99)).contains 99 = true := by kernel_rfl
theorem lexf_99 : Region.free .any (opsOf Tryd.f4 21) (lis 99) 99 = true := by kernel_rfl
theorem lexr_100 : (Region.ready .any (opsOf Tryd.f4 21) (lis 100)).contains 100 = true := by kernel_rfl
theorem lexf_100 : Region.free .any (opsOf Tryd.f4 21) (lis 100) 100 = true := by kernel_rfl
theorem lexr_101 : (Region.ready .any (opsOf Tryd.f4 21) (lis 101)).contains 101 = true := by kernel_rfl
theorem lexf_101 : Region.free .any (opsOf Tryd.f4 21) (lis 101) 101 = true := by kernel_rfl
theorem lexr_102 : (Region.ready .any (opsOf Tryd.f4 21) (lis 102)).contains 102 = true := by kernel_rfl
theorem lexf_102 : Region.free .any (opsOf Tryd.f4 21) (lis 102) 102 = true := by kernel_rfl
theorem lexr_103 : (Region.ready .any (opsOf Tryd.f4 21) (lis 103)).contains 103 = true := by kernel_rfl
theorem lexf_103 : Region.free .any (opsOf Tryd.f4 21) (lis 103) 103 = true := by kernel_rfl
theorem lexr_104 : (Region.ready .any (opsOf Tryd.f4 21) (lis 104)).contains 104 = true := by kernel_rfl
theorem lexf_104 : Region.free .any (opsOf Tryd.f4 21) (lis 104) 104 = true := by kernel_rfl
theorem lexr_105 : (Region.ready .any (opsOf Tryd.f4 21) (lis 105)).contains 105 = true := by kernel_rfl
theorem lexf_105 : Region.free .any (opsOf Tryd.f4 21) (lis 105) 105 = true := by kernel_rfl
theorem lexr_106 : (Region.ready .any (opsOf Tryd.f4 21) (lis 106)).contains 106 = true := by kernel_rfl
theorem lexf_106 : Region.free .any (opsOf Tryd.f4 21) (lis 106) 106 = true := by kernel_rfl
theorem lexr_107 : (Region.ready .any (opsOf Tryd.f4 21) (lis 107)).contains 107 = true := by kernel_rfl
theorem lexf_107 : Region.free .any (opsOf Tryd.f4 21) (lis 107) 107 = true := by kernel_rfl
theorem lex_107 : Region.lexFrom .any (opsOf Tryd.f4 21) 1 107 (lis 107) = true := lex_step .any _ 0 107 _ _ lexr_107 lexf_107 (by kernel_rfl) lex_108
theorem lex_106 : Region.lexFrom .any (opsOf Tryd.f4 21) 2 106 (lis 106) = true := lex_step .any _ 1 106 _ _ lexr_106 lexf_106 (by kernel_rfl) lex_107
theorem lex_105 : Region.lexFrom .any (opsOf Tryd.f4 21) 3 105 (lis 105) = true := lex_step .any _ 2 105 _ _ lexr_105 lexf_105 (by kernel_rfl) lex_106
theorem lex_104 : Region.lexFrom .any (opsOf Tryd.f4 21) 4 104 (lis 104) = true := lex_step .any _ 3 104 _ _ lexr_104 lexf_104 (by kernel_rfl) lex_105
theorem lex_103 : Region.lexFrom .any (opsOf Tryd.f4 21) 5 103 (lis 103) = true := lex_step .any _ 4 103 _ _ lexr_103 lexf_103 (by kernel_rfl) lex_104
theorem lex_102 : Region.lexFrom .any (opsOf Tryd.f4 21) 6 102 (lis 102) = true := lex_step .any _ 5 102 _ _ lexr_102 lexf_102 (by kernel_rfl) lex_103
theorem lex_101 : Region.lexFrom .any (opsOf Tryd.f4 21) 7 101 (lis 101) = true := lex_step .any _ 6 101 _ _ lexr_101 lexf_101 (by kernel_rfl) lex_102
theorem lex_100 : Region.lexFrom .any (opsOf Tryd.f4 21) 8 100 (lis 100) = true := lex_step .any _ 7 100 _ _ lexr_100 lexf_100 (by kernel_rfl) lex_101
theorem lex_99 : Region.lexFrom .any (opsOf Tryd.f4 21) 9 99 (lis 99) = true := lex_step .any _ 8 99 _ _ lexr_99 lexf_99 (by kernel_rfl) lex_100
theorem lex_98 : Region.lexFrom .any (opsOf Tryd.f4 21) 10 98 (lis 98) = true := lex_step .any _ 9 98 _ _ lexr_98 lexf_98 (by kernel_rfl) lex_99
theorem lex_97 : Region.lexFrom .any (opsOf Tryd.f4 21) 11 97 (lis 97) = true := lex_step .any _ 10 97 _ _ lexr_97 lexf_97 (by kernel_rfl) lex_98
theorem lex_96 : Region.lexFrom .any (opsOf Tryd.f4 21) 12 96 (lis 96) = true := lex_step .any _ 11 96 _ _ lexr_96 lexf_96 (by kernel_rfl) lex_97
theorem lex_95 : Region.lexFrom .any (opsOf Tryd.f4 21) 13 95 (lis 95) = true := lex_step .any _ 12 95 _ _ lexr_95 lexf_95 (by kernel_rfl) lex_96
theorem lex_94 : Region.lexFrom .any (opsOf Tryd.f4 21) 14 94 (lis 94) = true := lex_step .any _ 13 94 _ _ lexr_94 lexf_94 (by kernel_rfl) lex_95
theorem lex_93 : Region.lexFrom .any (opsOf Tryd.f4 21) 15 93 (lis 93) = true := lex_step .any _ 14 93 _ _ lexr_93 lexf_93 (by kernel_rfl) lex_94
theorem lex_92 : Region.lexFrom .any (opsOf Tryd.f4 21) 16 92 (lis 92) = true := lex_step .any _ 15 92 _ _ lexr_92 lexf_92 (by kernel_rfl) lex_93
theorem lex_91 : Region.lexFrom .any (opsOf Tryd.f4 21) 17 91 (lis 91) = true := lex_step .any _ 16 91 _ _ lexr_91 lexf_91 (by kernel_rfl) lex_92
theorem lex_90 : Region.lexFrom .any (opsOf Tryd.f4 21) 18 90 (lis 90) = true := lex_step .any _ 17 90 _ _ lexr_90 lexf_90 (by kernel_rfl) lex_91
theorem lex_89 : Region.lexFrom .any (opsOf Tryd.f4 21) 19 89 (lis 89) = true := lex_step .any _ 18 89 _ _ lexr_89 lexf_89 (by kernel_rfl) lex_90
theorem lex_88 : Region.lexFrom .any (opsOf Tryd.f4 21) 20 88 (lis 88) = true := lex_step .any _ 19 88 _ _ lexr_88 lexf_88 (by kernel_rfl) lex_89
theorem lex_87 : Region.lexFrom .any (opsOf Tryd.f4 21) 21 87 (lis 87) = true := lex_step .any _ 20 87 _ _ lexr_87 lexf_87 (by kernel_rfl) lex_88
theorem lex_86 : Region.lexFrom .any (opsOf Tryd.f4 21) 22 86 (lis 86) = true := lex_step .any _ 21 86 _ _ lexr_86 lexf_86 (by kernel_rfl) lex_87
theorem lex_85 : Region.lexFrom .any (opsOf Tryd.f4 21) 23 85 (lis 85) = true := lex_step .any _ 22 85 _ _ lexr_85 lexf_85 (by kernel_rfl) lex_86
theorem lex_84 : Region.lexFrom .any (opsOf Tryd.f4 21) 24 84 (lis 84) = true := lex_step .any _ 23 84 _ _ lexr_84 lexf_84 (by kernel_rfl) lex_85
theorem lex_83 : Region.lexFrom .any (opsOf Tryd.f4 21) 25 83 (lis 83) = true := lex_step .any _ 24 83 _ _ lexr_83 lexf_83 (by kernel_rfl) lex_84
theorem lex_82 : Region.lexFrom .any (opsOf Tryd.f4 21) 26 82 (lis 82) = true := lex_step .any _ 25 82 _ _ lexr_82 lexf_82 (by kernel_rfl) lex_83
theorem lex_81 : Region.lexFrom .any (opsOf Tryd.f4 21) 27 81 (lis 81) = true := lex_step .any _ 26 81 _ _ lexr_81 lexf_81 (by kernel_rfl) lex_82
theorem lex_80 : Region.lexFrom .any (opsOf Tryd.f4 21) 28 80 (lis 80) = true := lex_step .any _ 27 80 _ _ lexr_80 lexf_80 (by kernel_rfl) lex_81
theorem lex_79 : Region.lexFrom .any (opsOf Tryd.f4 21) 29 79 (lis 79) = true := lex_step .any _ 28 79 _ _ lexr_79 lexf_79 (by kernel_rfl) lex_80
theorem lex_78 : Region.lexFrom .any (opsOf Tryd.f4 21) 30 78 (lis 78) = true := lex_step .any _ 29 78 _ _ lexr_78 lexf_78 (by kernel_rfl) lex_79
theorem lex_77 : Region.lexFrom .any (opsOf Tryd.f4 21) 31 77 (lis 77) = true := lex_step .any _ 30 77 _ _ lexr_77 lexf_77 (by kernel_rfl) lex_78
theorem lex_76 : Region.lexFrom .any (opsOf Tryd.f4 21) 32 76 (lis 76) = true := lex_step .any _ 31 76 _ _ lexr_76 lexf_76 (by kernel_rfl) lex_77
theorem lex_75 : Region.lexFrom .any (opsOf Tryd.f4 21) 33 75 (lis 75) = true := lex_step .any _ 32 75 _ _ lexr_75 lexf_75 (by kernel_rfl) lex_76
theorem lex_74 : Region.lexFrom .any (opsOf Tryd.f4 21) 34 74 (lis 74) = true := lex_step .any _ 33 74 _ _ lexr_74 lexf_74 (by kernel_rfl) lex_75
theorem lex_73 : Region.lexFrom .any (opsOf Tryd.f4 21) 35 73 (lis 73) = true := lex_step .any _ 34 73 _ _ lexr_73 lexf_73 (by kernel_rfl) lex_74
theorem lex_72 : Region.lexFrom .any (opsOf Tryd.f4 21) 36 72 (lis 72) = true := lex_step .any _ 35 72 _ _ lexr_72 lexf_72 (by kernel_rfl) lex_73
theorem lex_71 : Region.lexFrom .any (opsOf Tryd.f4 21) 37 71 (lis 71) = true := lex_step .any _ 36 71 _ _ lexr_71 lexf_71 (by kernel_rfl) lex_72
theorem lex_70 : Region.lexFrom .any (opsOf Tryd.f4 21) 38 70 (lis 70) = true := lex_step .any _ 37 70 _ _ lexr_70 lexf_70 (by kernel_rfl) lex_71
theorem lex_69 : Region.lexFrom .any (opsOf Tryd.f4 21) 39 69 (lis 69) = true := lex_step .any _ 38 69 _ _ lexr_69 lexf_69 (by kernel_rfl) lex_70
theorem lex_68 : Region.lexFrom .any (opsOf Tryd.f4 21) 40 68 (lis 68) = true := lex_step .any _ 39 68 _ _ lexr_68 lexf_68 (by kernel_rfl) lex_69
theorem lex_67 : Region.lexFrom .any (opsOf Tryd.f4 21) 41 67 (lis 67) = true := lex_step .any _ 40 67 _ _ lexr_67 lexf_67 (by kernel_rfl) lex_68
theorem lex_66 : Region.lexFrom .any (opsOf Tryd.f4 21) 42 66 (lis 66) = true := lex_step .any _ 41 66 _ _ lexr_66 lexf_66 (by kernel_rfl) lex_67
theorem lex_65 : Region.lexFrom .any (opsOf Tryd.f4 21) 43 65 (lis 65) = true := lex_step .any _ 42 65 _ _ lexr_65 lexf_65 (by kernel_rfl) lex_66
theorem lex_64 : Region.lexFrom .any (opsOf Tryd.f4 21) 44 64 (lis 64) = true := lex_step .any _ 43 64 _ _ lexr_64 lexf_64 (by kernel_rfl) lex_65
theorem lex_63 : Region.lexFrom .any (opsOf Tryd.f4 21) 45 63 (lis 63) = true := lex_step .any _ 44 63 _ _ lexr_63 lexf_63 (by kernel_rfl) lex_64
theorem lex_62 : Region.lexFrom .any (opsOf Tryd.f4 21) 46 62 (lis 62) = true := lex_step .any _ 45 62 _ _ lexr_62 lexf_62 (by kernel_rfl) lex_63
theorem lex_61 : Region.lexFrom .any (opsOf Tryd.f4 21) 47 61 (lis 61) = true := lex_step .any _ 46 61 _ _ lexr_61 lexf_61 (by kernel_rfl) lex_62
theorem lex_60 : Region.lexFrom .any (opsOf Tryd.f4 21) 48 60 (lis 60) = true := lex_step .any _ 47 60 _ _ lexr_60 lexf_60 (by kernel_rfl) lex_61
theorem lex_59 : Region.lexFrom .any (opsOf Tryd.f4 21) 49 59 (lis 59) = true := lex_step .any _ 48 59 _ _ lexr_59 lexf_59 (by kernel_rfl) lex_60
theorem lex_58 : Region.lexFrom .any (opsOf Tryd.f4 21) 50 58 (lis 58) = true := lex_step .any _ 49 58 _ _ lexr_58 lexf_58 (by kernel_rfl) lex_59
theorem lex_57 : Region.lexFrom .any (opsOf Tryd.f4 21) 51 57 (lis 57) = true := lex_step .any _ 50 57 _ _ lexr_57 lexf_57 (by kernel_rfl) lex_58
theorem lex_56 : Region.lexFrom .any (opsOf Tryd.f4 21) 52 56 (lis 56) = true := lex_step .any _ 51 56 _ _ lexr_56 lexf_56 (by kernel_rfl) lex_57
theorem lex_55 : Region.lexFrom .any (opsOf Tryd.f4 21) 53 55 (lis 55) = true := lex_step .any _ 52 55 _ _ lexr_55 lexf_55 (by kernel_rfl) lex_56
theorem lex_54 : Region.lexFrom .any (opsOf Tryd.f4 21) 54 54 (lis 54) = true := lex_step .any _ 53 54 _ _ lexr_54 lexf_54 (by kernel_rfl) lex_55
theorem lex_53 : Region.lexFrom .any (opsOf Tryd.f4 21) 55 53 (lis 53) = true := lex_step .any _ 54 53 _ _ lexr_53 lexf_53 (by kernel_rfl) lex_54
theorem lex_52 : Region.lexFrom .any (opsOf Tryd.f4 21) 56 52 (lis 52) = true := lex_step .any _ 55 52 _ _ lexr_52 lexf_52 (by kernel_rfl) lex_53
theorem lex_51 : Region.lexFrom .any (opsOf Tryd.f4 21) 57 51 (lis 51) = true := lex_step .any _ 56 51 _ _ lexr_51 lexf_51 (by kernel_rfl) lex_52
theorem lex_50 : Region.lexFrom .any (opsOf Tryd.f4 21) 58 50 (lis 50) = true := lex_step .any _ 57 50 _ _ lexr_50 lexf_50 (by kernel_rfl) lex_51
theorem lex_49 : Region.lexFrom .any (opsOf Tryd.f4 21) 59 49 (lis 49) = true := lex_step .any _ 58 49 _ _ lexr_49 lexf_49 (by kernel_rfl) lex_50
theorem lex_48 : Region.lexFrom .any (opsOf Tryd.f4 21) 60 48 (lis 48) = true := lex_step .any _ 59 48 _ _ lexr_48 lexf_48 (by kernel_rfl) lex_49
theorem lex_47 : Region.lexFrom .any (opsOf Tryd.f4 21) 61 47 (lis 47) = true := lex_step .any _ 60 47 _ _ lexr_47 lexf_47 (by kernel_rfl) lex_48
theorem lex_46 : Region.lexFrom .any (opsOf Tryd.f4 21) 62 46 (lis 46) = true := lex_step .any _ 61 46 _ _ lexr_46 lexf_46 (by kernel_rfl) lex_47
theorem lex_45 : Region.lexFrom .any (opsOf Tryd.f4 21) 63 45 (lis 45) = true := lex_step .any _ 62 45 _ _ lexr_45 lexf_45 (by kernel_rfl) lex_46
theorem lex_44 : Region.lexFrom .any (opsOf Tryd.f4 21) 64 44 (lis 44) = true := lex_step .any _ 63 44 _ _ lexr_44 lexf_44 (by kernel_rfl) lex_45
theorem lex_43 : Region.lexFrom .any (opsOf Tryd.f4 21) 65 43 (lis 43) = true := lex_step .any _ 64 43 _ _ lexr_43 lexf_43 (by kernel_rfl) lex_44
theorem lex_42 : Region.lexFrom .any (opsOf Tryd.f4 21) 66 42 (lis 42) = true := lex_step .any _ 65 42 _ _ lexr_42 lexf_42 (by kernel_rfl) lex_43
theorem lex_41 : Region.lexFrom .any (opsOf Tryd.f4 21) 67 41 (lis 41) = true := lex_step .any _ 66 41 _ _ lexr_41 lexf_41 (by kernel_rfl) lex_42
theorem lex_40 : Region.lexFrom .any (opsOf Tryd.f4 21) 68 40 (lis 40) = true := lex_step .any _ 67 40 _ _ lexr_40 lexf_40 (by kernel_rfl) lex_41
theorem lex_39 : Region.lexFrom .any (opsOf Tryd.f4 21) 69 39 (lis 39) = true := lex_step .any _ 68 39 _ _ lexr_39 lexf_39 (by kernel_rfl) lex_40
theorem lex_38 : Region.lexFrom .any (opsOf Tryd.f4 21) 70 38 (lis 38) = true := lex_step .any _ 69 38 _ _ lexr_38 lexf_38 (by kernel_rfl) lex_39
theorem lex_37 : Region.lexFrom .any (opsOf Tryd.f4 21) 71 37 (lis 37) = true := lex_step .any _ 70 37 _ _ lexr_37 lexf_37 (by kernel_rfl) lex_38
theorem lex_36 : Region.lexFrom .any (opsOf Tryd.f4 21) 72 36 (lis 36) = true := lex_step .any _ 71 36 _ _ lexr_36 lexf_36 (by kernel_rfl) lex_37
theorem lex_35 : Region.lexFrom .any (opsOf Tryd.f4 21) 73 35 (lis 35) = true := lex_step .any _ 72 35 _ _ lexr_35 lexf_35 (by kernel_rfl) lex_36
theorem lex_34 : Region.lexFrom .any (opsOf Tryd.f4 21) 74 34 (lis 34) = true := lex_step .any _ 73 34 _ _ lexr_34 lexf_34 (by kernel_rfl) lex_35
theorem lex_33 : Region.lexFrom .any (opsOf Tryd.f4 21) 75 33 (lis 33) = true := lex_step .any _ 74 33 _ _ lexr_33 lexf_33 (by kernel_rfl) lex_34
theorem lex_32 : Region.lexFrom .any (opsOf Tryd.f4 21) 76 32 (lis 32) = true := lex_step .any _ 75 32 _ _ lexr_32 lexf_32 (by kernel_rfl) lex_33
theorem lex_31 : Region.lexFrom .any (opsOf Tryd.f4 21) 77 31 (lis 31) = true := lex_step .any _ 76 31 _ _ lexr_31 lexf_31 (by kernel_rfl) lex_32
theorem lex_30 : Region.lexFrom .any (opsOf Tryd.f4 21) 78 30 (lis 30) = true := lex_step .any _ 77 30 _ _ lexr_30 lexf_30 (by kernel_rfl) lex_31
theorem lex_29 : Region.lexFrom .any (opsOf Tryd.f4 21) 79 29 (lis 29) = true := lex_step .any _ 78 29 _ _ lexr_29 lexf_29 (by kernel_rfl) lex_30
theorem lex_28 : Region.lexFrom .any (opsOf Tryd.f4 21) 80 28 (lis 28) = true := lex_step .any _ 79 28 _ _ lexr_28 lexf_28 (by kernel_rfl) lex_29
theorem lex_27 : Region.lexFrom .any (opsOf Tryd.f4 21) 81 27 (lis 27) = true := lex_step .any _ 80 27 _ _ lexr_27 lexf_27 (by kernel_rfl) lex_28
theorem lex_26 : Region.lexFrom .any (opsOf Tryd.f4 21) 82 26 (lis 26) = true := lex_step .any _ 81 26 _ _ lexr_26 lexf_26 (by kernel_rfl) lex_27
theorem lex_25 : Region.lexFrom .any (opsOf Tryd.f4 21) 83 25 (lis 25) = true := lex_step .any _ 82 25 _ _ lexr_25 lexf_25 (by kernel_rfl) lex_26
theorem lex_24 : Region.lexFrom .any (opsOf Tryd.f4 21) 84 24 (lis 24) = true := lex_step .any _ 83 24 _ _ lexr_24 lexf_24 (by kernel_rfl) lex_25
theorem lex_23 : Region.lexFrom .any (opsOf Tryd.f4 21) 85 23 (lis 23) = true := lex_step .any _ 84 23 _ _ lexr_23 lexf_23 (by kernel_rfl) lex_24
theorem lex_22 : Region.lexFrom .any (opsOf Tryd.f4 21) 86 22 (lis 22) = true := lex_step .any _ 85 22 _ _ lexr_22 lexf_22 (by kernel_rfl) lex_23
theorem lex_21 : Region.lexFrom .any (opsOf Tryd.f4 21) 87 21 (lis 21) = true := lex_step .any _ 86 21 _ _ lexr_21 lexf_21 (by kernel_rfl) lex_22
theorem lex_20 : Region.lexFrom .any (opsOf Tryd.f4 21) 88 20 (lis 20) = true := lex_step .any _ 87 20 _ _ lexr_20 lexf_20 (by kernel_rfl) lex_21
theorem lex_19 : Region.lexFrom .any (opsOf Tryd.f4 21) 89 19 (lis 19) = true := lex_step .any _ 88 19 _ _ lexr_19 lexf_19 (by kernel_rfl) lex_20
theorem lex_18 : Region.lexFrom .any (opsOf Tryd.f4 21) 90 18 (lis 18) = true := lex_step .any _ 89 18 _ _ lexr_18 lexf_18 (by kernel_rfl) lex_19
theorem lex_17 : Region.lexFrom .any (opsOf Tryd.f4 21) 91 17 (lis 17) = true := lex_step .any _ 90 17 _ _ lexr_17 lexf_17 (by kernel_rfl) lex_18
theorem lex_16 : Region.lexFrom .any (opsOf Tryd.f4 21) 92 16 (lis 16) = true := lex_step .any _ 91 16 _ _ lexr_16 lexf_16 (by kernel_rfl) lex_17
theorem lex_15 : Region.lexFrom .any (opsOf Tryd.f4 21) 93 15 (lis 15) = true := lex_step .any _ 92 15 _ _ lexr_15 lexf_15 (by kernel_rfl) lex_16
theorem lex_14 : Region.lexFrom .any (opsOf Tryd.f4 21) 94 14 (lis 14) = true := lex_step .any _ 93 14 _ _ lexr_14 lexf_14 (by kernel_rfl) lex_15
theorem lex_13 : Region.lexFrom .any (opsOf Tryd.f4 21) 95 13 (lis 13) = true := lex_step .any _ 94 13 _ _ lexr_13 lexf_13 (by kernel_rfl) lex_14
theorem lex_12 : Region.lexFrom .any (opsOf Tryd.f4 21) 96 12 (lis 12) = true := lex_step .any _ 95 12 _ _ lexr_12 lexf_12 (by kernel_rfl) lex_13
theorem lex_11 : Region.lexFrom .any (opsOf Tryd.f4 21) 97 11 (lis 11) = true := lex_step .any _ 96 11 _ _ lexr_11 lexf_11 (by kernel_rfl) lex_12
theorem lex_10 : Region.lexFrom .any (opsOf Tryd.f4 21) 98 10 (lis 10) = true := lex_step .any _ 97 10 _ _ lexr_10 lexf_10 (by kernel_rfl) lex_11
theorem lex_9 : Region.lexFrom .any (opsOf Tryd.f4 21) 99 9 (lis 9) = true := lex_step .any _ 98 9 _ _ lexr_9 lexf_9 (by kernel_rfl) lex_10
theorem lex_8 : Region.lexFrom .any (opsOf Tryd.f4 21) 100 8 (lis 8) = true := lex_step .any _ 99 8 _ _ lexr_8 lexf_8 (by kernel_rfl) lex_9
theorem lex_7 : Region.lexFrom .any (opsOf Tryd.f4 21) 101 7 (lis 7) = true := lex_step .any _ 100 7 _ _ lexr_7 lexf_7 (by kernel_rfl) lex_8
theorem lex_6 : Region.lexFrom .any (opsOf Tryd.f4 21) 102 6 (lis 6) = true := lex_step .any _ 101 6 _ _ lexr_6 lexf_6 (by kernel_rfl) lex_7
theorem lex_5 : Region.lexFrom .any (opsOf Tryd.f4 21) 103 5 (lis 5) = true := lex_step .any _ 102 5 _ _ lexr_5 lexf_5 (by kernel_rfl) lex_6
theorem lex_4 : Region.lexFrom .any (opsOf Tryd.f4 21) 104 4 (lis 4) = true := lex_step .any _ 103 4 _ _ lexr_4 lexf_4 (by kernel_rfl) lex_5
theorem lex_3 : Region.lexFrom .any (opsOf Tryd.f4 21) 105 3 (lis 3) = true := lex_step .any _ 104 3 _ _ lexr_3 lexf_3 (by kernel_rfl) lex_4
theorem lex_2 : Region.lexFrom .any (opsOf Tryd.f4 21) 106 2 (lis 2) = true := lex_step .any _ 105 2 _ _ lexr_2 lexf_2 (by kernel_rfl) lex_3
theorem lex_1 : Region.lexFrom .any (opsOf Tryd.f4 21) 107 1 (lis 1) = true := lex_step .any _ 106 1 _ _ lexr_1 lexf_1 (by kernel_rfl) lex_2
theorem lex_0 : Region.lexFrom .any (opsOf Tryd.f4 21) 108 0 (lis 0) = true := lex_step .any _ 107 0 _ _ lexr_0 lexf_0 (by kernel_rfl) lex_1
theorem again_lexB : Region.lexB .any (opsOf Tryd.f4 21) = true := by
  unfold Region.lexB
  rw [lex_select, lex_size, Bool.true_and]
  exact lex_0
end Go.Proofs.YtmmkbdampdkjoaaDoor.All
