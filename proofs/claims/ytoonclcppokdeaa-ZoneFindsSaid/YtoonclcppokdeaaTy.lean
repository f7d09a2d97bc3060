/-
  WHAT THE PROGRAM'S TABLES SAY, in closed facts (printed by walk.py).
-/
import Derived.Test.YtoonclcppokdeaaRows
import Derived.Test.YtoonclcppokdeaaSlTy
import Derived.Test.YtoonclcppokdeaaSlMore
namespace Go.Proofs.Ytoonclcppokdeaa
open Go.RowKit
theorem follows_mixed : Try.prog.follows .mixedOrders = true := by kernel_rfl
theorem pl_2 : plainTy Try.prog 2 = true := by kernel_rfl
theorem one_2 : oneTy Try.prog 2 = true := by kernel_rfl
theorem zero_2 : zeroOf Try.prog 2 = some (.int .i64 0) := by kernel_rfl
theorem pl_3 : plainTy Try.prog 3 = true := by kernel_rfl
theorem one_3 : oneTy Try.prog 3 = true := by kernel_rfl
theorem zero_3 : zeroOf Try.prog 3 = some (.int .i64 0) := by kernel_rfl
theorem pl_4 : plainTy Try.prog 4 = true := by kernel_rfl
theorem one_4 : oneTy Try.prog 4 = true := by kernel_rfl
theorem zero_4 : zeroOf Try.prog 4 = some (.bool false) := by kernel_rfl
theorem pl_5 : plainTy Try.prog 5 = true := by kernel_rfl
theorem one_5 : oneTy Try.prog 5 = true := by kernel_rfl
theorem zero_5 : zeroOf Try.prog 5 = some (.int .u8 0) := by kernel_rfl
theorem pl_6 : plainTy Try.prog 6 = true := by kernel_rfl
theorem one_6 : oneTy Try.prog 6 = true := by kernel_rfl
theorem zero_6 : zeroOf Try.prog 6 = some (.int .u8 0) := by kernel_rfl
theorem zero_7 : zeroOf Try.prog 7 = some (.agg #[(.int .i64 0), (.int .i64 0), (.bool false), (.int .u8 0)]) := by kernel_rfl
theorem zero_8 : zeroOf Try.prog 8 = some (.agg #[(.int .i64 0), (.int .i64 0), (.bool false), (.int .u8 0)]) := by kernel_rfl
theorem fld_8_0 : fieldOff Try.prog 8 0 = some 0 := by kernel_rfl
theorem fld_8_1 : fieldOff Try.prog 8 1 = some 1 := by kernel_rfl
theorem fld_8_2 : fieldOff Try.prog 8 2 = some 2 := by kernel_rfl
theorem fld_8_3 : fieldOff Try.prog 8 3 = some 3 := by kernel_rfl
theorem pl_9 : plainTy Try.prog 9 = true := by kernel_rfl
theorem one_9 : oneTy Try.prog 9 = true := by kernel_rfl
theorem zero_9 : zeroOf Try.prog 9 = some (.string (bs [])) := by kernel_rfl
theorem pl_10 : plainTy Try.prog 10 = true := by kernel_rfl
theorem one_10 : oneTy Try.prog 10 = true := by kernel_rfl
theorem zero_10 : zeroOf Try.prog 10 = some (.string (bs [])) := by kernel_rfl
theorem pl_11 : plainTy Try.prog 11 = true := by kernel_rfl
theorem one_11 : oneTy Try.prog 11 = true := by kernel_rfl
theorem zero_11 : zeroOf Try.prog 11 = some (.string (bs [])) := by kernel_rfl
theorem pl_12 : plainTy Try.prog 12 = true := by kernel_rfl
theorem one_12 : oneTy Try.prog 12 = true := by kernel_rfl
theorem zero_12 : zeroOf Try.prog 12 = some (.int .u64 0) := by kernel_rfl
theorem zero_13 : zeroOf Try.prog 13 = some (.agg #[(.string (bs [])), (.int .u64 0)]) := by kernel_rfl
theorem zero_14 : zeroOf Try.prog 14 = some (.agg #[(.string (bs [])), (.int .u64 0)]) := by kernel_rfl
theorem fld_14_0 : fieldOff Try.prog 14 0 = some 0 := by kernel_rfl
theorem fld_14_1 : fieldOff Try.prog 14 1 = some 1 := by kernel_rfl
theorem pl_15 : plainTy Try.prog 15 = true := by kernel_rfl
theorem one_15 : oneTy Try.prog 15 = true := by kernel_rfl
theorem zero_15 : zeroOf Try.prog 15 = some (.pointer none) := by kernel_rfl
theorem pl_16 : plainTy Try.prog 16 = true := by kernel_rfl
theorem one_16 : oneTy Try.prog 16 = true := by kernel_rfl
theorem zero_16 : zeroOf Try.prog 16 = some (.pointer none) := by kernel_rfl
theorem pl_17 : plainTy Try.prog 17 = true := by kernel_rfl
theorem one_17 : oneTy Try.prog 17 = true := by kernel_rfl
theorem zero_17 : zeroOf Try.prog 17 = some (.pointer none) := by kernel_rfl
theorem zero_18 : zeroOf Try.prog 18 = some (.agg #[(.pointer none)]) := by kernel_rfl
theorem zero_19 : zeroOf Try.prog 19 = some (.agg #[(.pointer none)]) := by kernel_rfl
theorem fld_19_0 : fieldOff Try.prog 19 0 = some 0 := by kernel_rfl
theorem pl_21 : plainTy Try.prog 21 = true := by kernel_rfl
theorem one_21 : oneTy Try.prog 21 = true := by kernel_rfl
theorem zero_21 : zeroOf Try.prog 21 = some (.int .i32 0) := by kernel_rfl
theorem pl_22 : plainTy Try.prog 22 = true := by kernel_rfl
theorem one_22 : oneTy Try.prog 22 = true := by kernel_rfl
theorem zero_22 : zeroOf Try.prog 22 = some (.slice none 0 0) := by kernel_rfl
theorem info_22 : (Try.prog.info? 35).map (fun i => (i.zero, i.size, i.bytes)) = some (some (.agg #[(.string (bs [])), (.int .u8 0), (.int .u16 0)]), 3, 24) := by kernel_rfl
theorem ety_22 : ElemTy Try.prog 22 35 3 24 (.agg #[(.string (bs [])), (.int .u8 0), (.int .u16 0)]) := by
  obtain ⟨i, h1, h2, h3, h4⟩ := info_parts info_22
  exact ⟨Try.underlying22, ⟨i, h1, h2, h3, h4⟩, rfl, by decide⟩
theorem pl_23 : plainTy Try.prog 23 = true := by kernel_rfl
theorem one_23 : oneTy Try.prog 23 = true := by kernel_rfl
theorem zero_23 : zeroOf Try.prog 23 = some (.slice none 0 0) := by kernel_rfl
theorem info_23 : (Try.prog.info? 9).map (fun i => (i.zero, i.size, i.bytes)) = some (some (.string (bs [])), 1, 16) := by kernel_rfl
theorem ety_23 : ElemTy Try.prog 23 9 1 16 (.string (bs [])) := by
  obtain ⟨i, h1, h2, h3, h4⟩ := info_parts info_23
  exact ⟨Try.underlying23, ⟨i, h1, h2, h3, h4⟩, rfl, by decide⟩
theorem pl_26 : plainTy Try.prog 26 = true := by kernel_rfl
theorem one_26 : oneTy Try.prog 26 = true := by kernel_rfl
theorem zero_26 : zeroOf Try.prog 26 = some (.pointer none) := by kernel_rfl
theorem pl_27 : plainTy Try.prog 27 = true := by kernel_rfl
theorem one_27 : oneTy Try.prog 27 = true := by kernel_rfl
theorem zero_27 : zeroOf Try.prog 27 = some (.int .i64 0) := by kernel_rfl
theorem pl_30 : plainTy Try.prog 30 = true := by kernel_rfl
theorem one_30 : oneTy Try.prog 30 = true := by kernel_rfl
theorem zero_30 : zeroOf Try.prog 30 = some (.pointer none) := by kernel_rfl
theorem pl_33 : plainTy Try.prog 33 = true := by kernel_rfl
theorem one_33 : oneTy Try.prog 33 = true := by kernel_rfl
theorem zero_33 : zeroOf Try.prog 33 = some (.int .u16 0) := by kernel_rfl
theorem zero_34 : zeroOf Try.prog 34 = some (.agg #[(.string (bs [])), (.int .u8 0), (.int .u16 0)]) := by kernel_rfl
theorem zero_35 : zeroOf Try.prog 35 = some (.agg #[(.string (bs [])), (.int .u8 0), (.int .u16 0)]) := by kernel_rfl
theorem fld_35_0 : fieldOff Try.prog 35 0 = some 0 := by kernel_rfl
theorem fld_35_1 : fieldOff Try.prog 35 1 = some 1 := by kernel_rfl
theorem fld_35_2 : fieldOff Try.prog 35 2 = some 2 := by kernel_rfl
theorem pl_40 : plainTy Try.prog 40 = true := by kernel_rfl
theorem one_40 : oneTy Try.prog 40 = true := by kernel_rfl
theorem zero_40 : zeroOf Try.prog 40 = some (.slice none 0 0) := by kernel_rfl
theorem info_40 : (Try.prog.info? 5).map (fun i => (i.zero, i.size, i.bytes)) = some (some (.int .u8 0), 1, 1) := by kernel_rfl
theorem ety_40 : ElemTy Try.prog 40 5 1 1 (.int .u8 0) := by
  obtain ⟨i, h1, h2, h3, h4⟩ := info_parts info_40
  exact ⟨Try.underlying40, ⟨i, h1, h2, h3, h4⟩, rfl, by decide⟩
theorem pl_41 : plainTy Try.prog 41 = true := by kernel_rfl
theorem one_41 : oneTy Try.prog 41 = true := by kernel_rfl
theorem zero_41 : zeroOf Try.prog 41 = some (.map none) := by kernel_rfl
theorem zero_42 : zeroOf Try.prog 42 = some (.agg #[(.map none), (.int .i64 0)]) := by kernel_rfl
theorem zero_43 : zeroOf Try.prog 43 = some (.agg #[(.map none), (.int .i64 0)]) := by kernel_rfl
theorem fld_43_0 : fieldOff Try.prog 43 0 = some 0 := by kernel_rfl
theorem fld_43_1 : fieldOff Try.prog 43 1 = some 1 := by kernel_rfl
theorem pl_44 : plainTy Try.prog 44 = true := by kernel_rfl
theorem one_44 : oneTy Try.prog 44 = true := by kernel_rfl
theorem zero_44 : zeroOf Try.prog 44 = some (.int .u64 0) := by kernel_rfl
theorem pl_71 : plainTy Try.prog 71 = true := by kernel_rfl
theorem one_71 : oneTy Try.prog 71 = true := by kernel_rfl
theorem zero_71 : zeroOf Try.prog 71 = some (.map none) := by kernel_rfl
theorem zero_72 : zeroOf Try.prog 72 = some (.agg #[(.slice none 0 0)]) := by kernel_rfl
theorem zero_73 : zeroOf Try.prog 73 = some (.agg #[(.slice none 0 0)]) := by kernel_rfl
theorem fld_73_0 : fieldOff Try.prog 73 0 = some 0 := by kernel_rfl
theorem zero_75 : zeroOf Try.prog 75 = some (.agg #[(.slice none 0 0), (.slice none 0 0), (.int .i64 0), (.int .i64 0)]) := by kernel_rfl
theorem zero_76 : zeroOf Try.prog 76 = some (.agg #[(.slice none 0 0), (.slice none 0 0), (.int .i64 0), (.int .i64 0)]) := by kernel_rfl
theorem fld_76_0 : fieldOff Try.prog 76 0 = some 0 := by kernel_rfl
theorem fld_76_1 : fieldOff Try.prog 76 1 = some 1 := by kernel_rfl
theorem fld_76_2 : fieldOff Try.prog 76 2 = some 2 := by kernel_rfl
theorem fld_76_3 : fieldOff Try.prog 76 3 = some 3 := by kernel_rfl
theorem pl_81 : plainTy Try.prog 81 = true := by kernel_rfl
theorem one_81 : oneTy Try.prog 81 = true := by kernel_rfl
theorem zero_81 : zeroOf Try.prog 81 = some (.pointer none) := by kernel_rfl
theorem zero_82 : zeroOf Try.prog 82 = some (.agg #[(.pointer none), (.slice none 0 0)]) := by kernel_rfl
theorem zero_83 : zeroOf Try.prog 83 = some (.agg #[(.pointer none), (.slice none 0 0)]) := by kernel_rfl
theorem fld_83_0 : fieldOff Try.prog 83 0 = some 0 := by kernel_rfl
theorem fld_83_1 : fieldOff Try.prog 83 1 = some 1 := by kernel_rfl
theorem pl_90 : plainTy Try.prog 90 = true := by kernel_rfl
theorem one_90 : oneTy Try.prog 90 = true := by kernel_rfl
theorem zero_90 : zeroOf Try.prog 90 = some (.pointer none) := by kernel_rfl
theorem pl_91 : plainTy Try.prog 91 = true := by kernel_rfl
theorem one_91 : oneTy Try.prog 91 = true := by kernel_rfl
theorem zero_91 : zeroOf Try.prog 91 = some (.pointer none) := by kernel_rfl
theorem zero_94 : zeroOf Try.prog 94 = some (.agg #[(.pointer none), (.pointer none), (.pointer none), (.string (bs []))]) := by kernel_rfl
theorem zero_95 : zeroOf Try.prog 95 = some (.agg #[(.pointer none), (.pointer none), (.pointer none), (.string (bs []))]) := by kernel_rfl
theorem fld_95_0 : fieldOff Try.prog 95 0 = some 0 := by kernel_rfl
theorem fld_95_1 : fieldOff Try.prog 95 1 = some 1 := by kernel_rfl
theorem fld_95_2 : fieldOff Try.prog 95 2 = some 2 := by kernel_rfl
theorem fld_95_3 : fieldOff Try.prog 95 3 = some 3 := by kernel_rfl
theorem zero_96 : zeroOf Try.prog 96 = some (.agg #[]) := by kernel_rfl
theorem zero_97 : zeroOf Try.prog 97 = some (.agg #[]) := by kernel_rfl
theorem zero_98 : zeroOf Try.prog 98 = some (.agg #[]) := by kernel_rfl
theorem pl_99 : plainTy Try.prog 99 = true := by kernel_rfl
theorem one_99 : oneTy Try.prog 99 = true := by kernel_rfl
theorem zero_99 : zeroOf Try.prog 99 = some (.int .u32 0) := by kernel_rfl
theorem pl_100 : plainTy Try.prog 100 = true := by kernel_rfl
theorem one_100 : oneTy Try.prog 100 = true := by kernel_rfl
theorem zero_100 : zeroOf Try.prog 100 = some (.int .u8 0) := by kernel_rfl
theorem pl_101 : plainTy Try.prog 101 = true := by kernel_rfl
theorem one_101 : oneTy Try.prog 101 = true := by kernel_rfl
theorem zero_101 : zeroOf Try.prog 101 = some (.int .u8 0) := by kernel_rfl
theorem pl_103 : plainTy Try.prog 103 = true := by kernel_rfl
theorem one_103 : oneTy Try.prog 103 = true := by kernel_rfl
theorem zero_103 : zeroOf Try.prog 103 = some (.int .i32 0) := by kernel_rfl
theorem pl_104 : plainTy Try.prog 104 = true := by kernel_rfl
theorem one_104 : oneTy Try.prog 104 = true := by kernel_rfl
theorem zero_104 : zeroOf Try.prog 104 = some (.int .i32 0) := by kernel_rfl
theorem zero_105 : zeroOf Try.prog 105 = some (.agg #[(.int .u64 0), (.int .u64 0), (.int .u32 0), (.int .u8 0), (.int .u8 0), (.int .u8 0), (.int .u8 0), .nilFunc, (.pointer none), (.int .i32 0), (.int .i32 0)]) := by kernel_rfl
theorem zero_106 : zeroOf Try.prog 106 = some (.agg #[(.int .u64 0), (.int .u64 0), (.int .u32 0), (.int .u8 0), (.int .u8 0), (.int .u8 0), (.int .u8 0), .nilFunc, (.pointer none), (.int .i32 0), (.int .i32 0)]) := by kernel_rfl
theorem fld_106_0 : fieldOff Try.prog 106 0 = some 0 := by kernel_rfl
theorem fld_106_1 : fieldOff Try.prog 106 1 = some 1 := by kernel_rfl
theorem fld_106_2 : fieldOff Try.prog 106 2 = some 2 := by kernel_rfl
theorem fld_106_3 : fieldOff Try.prog 106 3 = some 3 := by kernel_rfl
theorem fld_106_4 : fieldOff Try.prog 106 4 = some 4 := by kernel_rfl
theorem fld_106_5 : fieldOff Try.prog 106 5 = some 5 := by kernel_rfl
theorem fld_106_6 : fieldOff Try.prog 106 6 = some 6 := by kernel_rfl
theorem fld_106_7 : fieldOff Try.prog 106 7 = some 7 := by kernel_rfl
theorem fld_106_8 : fieldOff Try.prog 106 8 = some 8 := by kernel_rfl
theorem fld_106_9 : fieldOff Try.prog 106 9 = some 9 := by kernel_rfl
theorem fld_106_10 : fieldOff Try.prog 106 10 = some 10 := by kernel_rfl
theorem hb_3 : hasBody Try.prog 3 = true := by kernel_rfl
theorem hb_4 : hasBody Try.prog 4 = true := by kernel_rfl
theorem hb_5 : hasBody Try.prog 5 = true := by kernel_rfl
theorem hb_6 : hasBody Try.prog 6 = true := by kernel_rfl
theorem hb_7 : hasBody Try.prog 7 = true := by kernel_rfl
theorem hb_8 : hasBody Try.prog 8 = true := by kernel_rfl
theorem hb_9 : hasBody Try.prog 9 = true := by kernel_rfl
theorem hb_10 : hasBody Try.prog 10 = true := by kernel_rfl
theorem hb_11 : hasBody Try.prog 11 = true := by kernel_rfl
theorem hb_12 : hasBody Try.prog 12 = true := by kernel_rfl
theorem hb_13 : hasBody Try.prog 13 = true := by kernel_rfl
theorem hb_14 : hasBody Try.prog 14 = true := by kernel_rfl
theorem hb_15 : hasBody Try.prog 15 = true := by kernel_rfl
theorem hb_16 : hasBody Try.prog 16 = true := by kernel_rfl
theorem hb_17 : hasBody Try.prog 17 = true := by kernel_rfl
theorem hb_18 : hasBody Try.prog 18 = true := by kernel_rfl
theorem hb_19 : hasBody Try.prog 19 = true := by kernel_rfl
theorem hb_20 : hasBody Try.prog 20 = true := by kernel_rfl
theorem hb_21 : hasBody Try.prog 21 = true := by kernel_rfl
theorem hb_22 : hasBody Try.prog 22 = true := by kernel_rfl
theorem hb_23 : hasBody Try.prog 23 = true := by kernel_rfl
theorem hb_24 : hasBody Try.prog 24 = true := by kernel_rfl
theorem hb_25 : hasBody Try.prog 25 = true := by kernel_rfl
theorem hb_26 : hasBody Try.prog 26 = true := by kernel_rfl
theorem hb_27 : hasBody Try.prog 27 = true := by kernel_rfl
theorem hb_28 : hasBody Try.prog 28 = true := by kernel_rfl
theorem hb_29 : hasBody Try.prog 29 = true := by kernel_rfl
theorem hb_30 : hasBody Try.prog 30 = true := by kernel_rfl
theorem hb_31 : hasBody Try.prog 31 = true := by kernel_rfl
theorem hb_32 : hasBody Try.prog 32 = true := by kernel_rfl
theorem hb_33 : hasBody Try.prog 33 = true := by kernel_rfl
theorem hb_34 : hasBody Try.prog 34 = true := by kernel_rfl
theorem hb_35 : hasBody Try.prog 35 = true := by kernel_rfl
theorem hb_36 : hasBody Try.prog 36 = true := by kernel_rfl
theorem hb_37 : hasBody Try.prog 37 = true := by kernel_rfl
theorem hb_38 : hasBody Try.prog 38 = true := by kernel_rfl
theorem hb_39 : hasBody Try.prog 39 = true := by kernel_rfl
theorem hb_40 : hasBody Try.prog 40 = true := by kernel_rfl
theorem hb_41 : hasBody Try.prog 41 = true := by kernel_rfl
theorem hb_42 : hasBody Try.prog 42 = true := by kernel_rfl
theorem hb_43 : hasBody Try.prog 43 = true := by kernel_rfl
theorem hb_44 : hasBody Try.prog 44 = true := by kernel_rfl
theorem hb_45 : hasBody Try.prog 45 = true := by kernel_rfl
theorem hb_46 : hasBody Try.prog 46 = true := by kernel_rfl
theorem hb_47 : hasBody Try.prog 47 = true := by kernel_rfl
theorem hb_48 : hasBody Try.prog 48 = true := by kernel_rfl
theorem hb_49 : hasBody Try.prog 49 = true := by kernel_rfl
theorem hb_50 : hasBody Try.prog 50 = true := by kernel_rfl
theorem hb_51 : hasBody Try.prog 51 = true := by kernel_rfl
theorem hb_52 : hasBody Try.prog 52 = true := by kernel_rfl
theorem hb_53 : hasBody Try.prog 53 = true := by kernel_rfl
theorem hb_54 : hasBody Try.prog 54 = true := by kernel_rfl
theorem hb_55 : hasBody Try.prog 55 = true := by kernel_rfl
theorem hb_56 : hasBody Try.prog 56 = true := by kernel_rfl
theorem hb_57 : hasBody Try.prog 57 = true := by kernel_rfl
theorem hb_58 : hasBody Try.prog 58 = true := by kernel_rfl
theorem hb_59 : hasBody Try.prog 59 = true := by kernel_rfl
theorem hb_60 : hasBody Try.prog 60 = true := by kernel_rfl
theorem hb_61 : hasBody Try.prog 61 = true := by kernel_rfl
theorem hb_62 : hasBody Try.prog 62 = true := by kernel_rfl
theorem hb_63 : hasBody Try.prog 63 = true := by kernel_rfl
theorem hb_64 : hasBody Try.prog 64 = true := by kernel_rfl
theorem hb_65 : hasBody Try.prog 65 = true := by kernel_rfl
theorem hb_67 : hasBody Try.prog 67 = true := by kernel_rfl
theorem hb_68 : hasBody Try.prog 68 = true := by kernel_rfl
theorem hb_69 : hasBody Try.prog 69 = true := by kernel_rfl
end Go.Proofs.Ytoonclcppokdeaa
