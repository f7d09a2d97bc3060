/-
  WHAT THE PROGRAM'S TABLES SAY, in closed facts (printed by walk.py).
-/
import Derived.Test.YtpamoacgajlkeaaRows
import Derived.Test.YtpamoacgajlkeaaSlTy
import Derived.Test.YtpamoacgajlkeaaSlMore
import Derived.Test.YtpamoacgajlkeaaSt
namespace Go.Proofs.Ytpamoacgajlkeaa
open Go.RowKit
theorem follows_mixed : Try.prog.follows .mixedOrders = true := by kernel_rfl
theorem pl_2 : plainTy Try.prog 2 = true := by kernel_rfl
theorem one_2 : oneTy Try.prog 2 = true := by kernel_rfl
theorem zero_2 : zeroOf Try.prog 2 = some (.int .i64 0) := by kernel_rfl
theorem pl_3 : plainTy Try.prog 3 = true := by kernel_rfl
theorem one_3 : oneTy Try.prog 3 = true := by kernel_rfl
theorem zero_3 : zeroOf Try.prog 3 = some (.int .i64 0) := by kernel_rfl
theorem pl_4 : plainTy Try.prog 4 = true := by kernel_rfl
theorem one_4 : oneTy Try.prog 4 = true := by kernel_rfl
theorem zero_4 : zeroOf Try.prog 4 = some (.bool false) := by kernel_rfl
theorem pl_5 : plainTy Try.prog 5 = true := by kernel_rfl
theorem one_5 : oneTy Try.prog 5 = true := by kernel_rfl
theorem zero_5 : zeroOf Try.prog 5 = some (.int .u8 0) := by kernel_rfl
theorem pl_6 : plainTy Try.prog 6 = true := by kernel_rfl
theorem one_6 : oneTy Try.prog 6 = true := by kernel_rfl
theorem zero_6 : zeroOf Try.prog 6 = some (.int .u8 0) := by kernel_rfl
theorem zero_7 : zeroOf Try.prog 7 = some (.agg #[(.int .i64 0), (.int .i64 0), (.bool false), (.int .u8 0)]) := by kernel_rfl
theorem st_7 : structTy Try.prog 7 4 = true := by kernel_rfl
theorem zero_8 : zeroOf Try.prog 8 = some (.agg #[(.int .i64 0), (.int .i64 0), (.bool false), (.int .u8 0)]) := by kernel_rfl
theorem st_8 : structTy Try.prog 8 4 = true := by kernel_rfl
theorem fld_8_0 : fieldOff Try.prog 8 0 = some 0 := by kernel_rfl
theorem fld_8_1 : fieldOff Try.prog 8 1 = some 1 := by kernel_rfl
theorem fld_8_2 : fieldOff Try.prog 8 2 = some 2 := by kernel_rfl
theorem fld_8_3 : fieldOff Try.prog 8 3 = some 3 := by kernel_rfl
theorem pl_9 : plainTy Try.prog 9 = true := by kernel_rfl
theorem one_9 : oneTy Try.prog 9 = true := by kernel_rfl
theorem zero_9 : zeroOf Try.prog 9 = some (.string (bs [])) := by kernel_rfl
theorem pl_10 : plainTy Try.prog 10 = true := by kernel_rfl
theorem one_10 : oneTy Try.prog 10 = true := by kernel_rfl
theorem zero_10 : zeroOf Try.prog 10 = some (.string (bs [])) := by kernel_rfl
theorem pl_11 : plainTy Try.prog 11 = true := by kernel_rfl
theorem one_11 : oneTy Try.prog 11 = true := by kernel_rfl
theorem zero_11 : zeroOf Try.prog 11 = some (.string (bs [])) := by kernel_rfl
theorem pl_12 : plainTy Try.prog 12 = true := by kernel_rfl
theorem one_12 : oneTy Try.prog 12 = true := by kernel_rfl
theorem zero_12 : zeroOf Try.prog 12 = some (.int .u64 0) := by kernel_rfl
theorem zero_13 : zeroOf Try.prog 13 = some (.agg #[(.string (bs [])), (.int .u64 0)]) := by kernel_rfl
theorem st_13 : structTy Try.prog 13 2 = true := by kernel_rfl
theorem zero_14 : zeroOf Try.prog 14 = some (.agg #[(.string (bs [])), (.int .u64 0)]) := by kernel_rfl
theorem st_14 : structTy Try.prog 14 2 = true := by kernel_rfl
theorem fld_14_0 : fieldOff Try.prog 14 0 = some 0 := by kernel_rfl
theorem fld_14_1 : fieldOff Try.prog 14 1 = some 1 := by kernel_rfl
theorem pl_15 : plainTy Try.prog 15 = true := by kernel_rfl
theorem one_15 : oneTy Try.prog 15 = true := by kernel_rfl
theorem zero_15 : zeroOf Try.prog 15 = some (.pointer none) := by kernel_rfl
theorem pl_16 : plainTy Try.prog 16 = true := by kernel_rfl
theorem one_16 : oneTy Try.prog 16 = true := by kernel_rfl
theorem zero_16 : zeroOf Try.prog 16 = some (.pointer none) := by kernel_rfl
theorem pl_17 : plainTy Try.prog 17 = true := by kernel_rfl
theorem one_17 : oneTy Try.prog 17 = true := by kernel_rfl
theorem zero_17 : zeroOf Try.prog 17 = some (.pointer none) := by kernel_rfl
theorem zero_18 : zeroOf Try.prog 18 = some (.agg #[(.pointer none)]) := by kernel_rfl
theorem st_18 : structTy Try.prog 18 1 = true := by kernel_rfl
theorem zero_19 : zeroOf Try.prog 19 = some (.agg #[(.pointer none)]) := by kernel_rfl
theorem st_19 : structTy Try.prog 19 1 = true := by kernel_rfl
theorem fld_19_0 : fieldOff Try.prog 19 0 = some 0 := by kernel_rfl
theorem pl_21 : plainTy Try.prog 21 = true := by kernel_rfl
theorem one_21 : oneTy Try.prog 21 = true := by kernel_rfl
theorem zero_21 : zeroOf Try.prog 21 = some (.int .i32 0) := by kernel_rfl
theorem pl_22 : plainTy Try.prog 22 = true := by kernel_rfl
theorem one_22 : oneTy Try.prog 22 = true := by kernel_rfl
theorem zero_22 : zeroOf Try.prog 22 = some (.slice none 0 0) := by kernel_rfl
theorem info_22 : (Try.prog.info? 3).map (fun i => (i.zero, i.size, i.bytes)) = some (some (.int .i64 0), 1, 8) := by kernel_rfl
theorem ety_22 : ElemTy Try.prog 22 3 1 8 (.int .i64 0) := by
  obtain ⟨i, h1, h2, h3, h4⟩ := info_parts info_22
  exact ⟨Try.underlying22, ⟨i, h1, h2, h3, h4⟩, rfl, by decide⟩
theorem zero_23 : zeroOf Try.prog 23 = some (.agg #[(.slice none 0 0), (.int .i64 0), (.int .i64 0), (.int .i64 0), (.int .i64 0), (.int .i64 0)]) := by kernel_rfl
theorem st_23 : structTy Try.prog 23 6 = true := by kernel_rfl
theorem zero_24 : zeroOf Try.prog 24 = some (.agg #[(.slice none 0 0), (.int .i64 0), (.int .i64 0), (.int .i64 0), (.int .i64 0), (.int .i64 0)]) := by kernel_rfl
theorem st_24 : structTy Try.prog 24 6 = true := by kernel_rfl
theorem fld_24_0 : fieldOff Try.prog 24 0 = some 0 := by kernel_rfl
theorem fld_24_1 : fieldOff Try.prog 24 1 = some 1 := by kernel_rfl
theorem fld_24_2 : fieldOff Try.prog 24 2 = some 2 := by kernel_rfl
theorem fld_24_3 : fieldOff Try.prog 24 3 = some 3 := by kernel_rfl
theorem fld_24_4 : fieldOff Try.prog 24 4 = some 4 := by kernel_rfl
theorem fld_24_5 : fieldOff Try.prog 24 5 = some 5 := by kernel_rfl
theorem pl_26 : plainTy Try.prog 26 = true := by kernel_rfl
theorem one_26 : oneTy Try.prog 26 = true := by kernel_rfl
theorem zero_26 : zeroOf Try.prog 26 = some (.pointer none) := by kernel_rfl
theorem zero_29 : zeroOf Try.prog 29 = some (.agg #[(.int .i64 0), (.int .i64 0), (.int .i64 0), (.int .i64 0), (.int .i64 0), (.int .i64 0), (.int .i64 0), (.int .i64 0), (.int .i64 0)]) := by kernel_rfl
theorem arr_29 : arrTy Try.prog 29 = some (9, 1) := by kernel_rfl
theorem pl_34 : plainTy Try.prog 34 = true := by kernel_rfl
theorem one_34 : oneTy Try.prog 34 = true := by kernel_rfl
theorem zero_34 : zeroOf Try.prog 34 = some (.slice none 0 0) := by kernel_rfl
theorem info_34 : (Try.prog.info? 36).map (fun i => (i.zero, i.size, i.bytes)) = some (some (.agg #[(.int .u8 0), (.int .u8 0), (.bool false)]), 3, 3) := by kernel_rfl
theorem ety_34 : ElemTy Try.prog 34 36 3 3 (.agg #[(.int .u8 0), (.int .u8 0), (.bool false)]) := by
  obtain ⟨i, h1, h2, h3, h4⟩ := info_parts info_34
  exact ⟨Try.underlying34, ⟨i, h1, h2, h3, h4⟩, rfl, by decide⟩
theorem zero_35 : zeroOf Try.prog 35 = some (.agg #[(.int .u8 0), (.int .u8 0), (.bool false)]) := by kernel_rfl
theorem st_35 : structTy Try.prog 35 3 = true := by kernel_rfl
theorem zero_36 : zeroOf Try.prog 36 = some (.agg #[(.int .u8 0), (.int .u8 0), (.bool false)]) := by kernel_rfl
theorem st_36 : structTy Try.prog 36 3 = true := by kernel_rfl
theorem fld_36_0 : fieldOff Try.prog 36 0 = some 0 := by kernel_rfl
theorem fld_36_1 : fieldOff Try.prog 36 1 = some 1 := by kernel_rfl
theorem fld_36_2 : fieldOff Try.prog 36 2 = some 2 := by kernel_rfl
theorem zero_43 : zeroOf Try.prog 43 = some (.agg #[(.int .i64 0), (.int .i64 0), (.int .i64 0), (.int .i64 0), (.int .i64 0), (.int .i64 0), (.int .i64 0), (.int .i64 0), (.int .i64 0)]) := by kernel_rfl
theorem arr_43 : arrTy Try.prog 43 = some (9, 1) := by kernel_rfl
theorem pl_47 : plainTy Try.prog 47 = true := by kernel_rfl
theorem one_47 : oneTy Try.prog 47 = true := by kernel_rfl
theorem zero_47 : zeroOf Try.prog 47 = some (.int .u64 0) := by kernel_rfl
theorem pl_48 : plainTy Try.prog 48 = true := by kernel_rfl
theorem one_48 : oneTy Try.prog 48 = true := by kernel_rfl
theorem zero_48 : zeroOf Try.prog 48 = some (.int .u64 0) := by kernel_rfl
theorem pl_49 : plainTy Try.prog 49 = true := by kernel_rfl
theorem one_49 : oneTy Try.prog 49 = true := by kernel_rfl
theorem zero_49 : zeroOf Try.prog 49 = some (.int .i64 0) := by kernel_rfl
theorem pl_56 : plainTy Try.prog 56 = true := by kernel_rfl
theorem one_56 : oneTy Try.prog 56 = true := by kernel_rfl
theorem zero_56 : zeroOf Try.prog 56 = some (.slice none 0 0) := by kernel_rfl
theorem info_56 : (Try.prog.info? 62).map (fun i => (i.zero, i.size, i.bytes)) = some (some (.agg #[(.int .i64 0), (.int .i64 0), (.int .i64 0), (.bool false)]), 4, 32) := by kernel_rfl
theorem ety_56 : ElemTy Try.prog 56 62 4 32 (.agg #[(.int .i64 0), (.int .i64 0), (.int .i64 0), (.bool false)]) := by
  obtain ⟨i, h1, h2, h3, h4⟩ := info_parts info_56
  exact ⟨Try.underlying56, ⟨i, h1, h2, h3, h4⟩, rfl, by decide⟩
theorem zero_57 : zeroOf Try.prog 57 = some (.agg #[(.slice none 0 0), (.int .i64 0), (.int .i64 0), (.int .i64 0), (.int .i64 0), (.int .i64 0), (.int .i64 0), (.int .i64 0), (.int .i64 0), (.bool false), (.bool false)]) := by kernel_rfl
theorem st_57 : structTy Try.prog 57 11 = true := by kernel_rfl
theorem zero_58 : zeroOf Try.prog 58 = some (.agg #[(.slice none 0 0), (.int .i64 0), (.int .i64 0), (.int .i64 0), (.int .i64 0), (.int .i64 0), (.int .i64 0), (.int .i64 0), (.int .i64 0), (.bool false), (.bool false)]) := by kernel_rfl
theorem st_58 : structTy Try.prog 58 11 = true := by kernel_rfl
theorem fld_58_0 : fieldOff Try.prog 58 0 = some 0 := by kernel_rfl
theorem fld_58_1 : fieldOff Try.prog 58 1 = some 1 := by kernel_rfl
theorem fld_58_2 : fieldOff Try.prog 58 2 = some 2 := by kernel_rfl
theorem fld_58_3 : fieldOff Try.prog 58 3 = some 3 := by kernel_rfl
theorem fld_58_4 : fieldOff Try.prog 58 4 = some 4 := by kernel_rfl
theorem fld_58_5 : fieldOff Try.prog 58 5 = some 5 := by kernel_rfl
theorem fld_58_6 : fieldOff Try.prog 58 6 = some 6 := by kernel_rfl
theorem fld_58_7 : fieldOff Try.prog 58 7 = some 7 := by kernel_rfl
theorem fld_58_8 : fieldOff Try.prog 58 8 = some 8 := by kernel_rfl
theorem fld_58_9 : fieldOff Try.prog 58 9 = some 9 := by kernel_rfl
theorem fld_58_10 : fieldOff Try.prog 58 10 = some 10 := by kernel_rfl
theorem pl_60 : plainTy Try.prog 60 = true := by kernel_rfl
theorem one_60 : oneTy Try.prog 60 = true := by kernel_rfl
theorem zero_60 : zeroOf Try.prog 60 = some (.pointer none) := by kernel_rfl
theorem zero_61 : zeroOf Try.prog 61 = some (.agg #[(.int .i64 0), (.int .i64 0), (.int .i64 0), (.bool false)]) := by kernel_rfl
theorem st_61 : structTy Try.prog 61 4 = true := by kernel_rfl
theorem zero_62 : zeroOf Try.prog 62 = some (.agg #[(.int .i64 0), (.int .i64 0), (.int .i64 0), (.bool false)]) := by kernel_rfl
theorem st_62 : structTy Try.prog 62 4 = true := by kernel_rfl
theorem fld_62_0 : fieldOff Try.prog 62 0 = some 0 := by kernel_rfl
theorem fld_62_1 : fieldOff Try.prog 62 1 = some 1 := by kernel_rfl
theorem fld_62_2 : fieldOff Try.prog 62 2 = some 2 := by kernel_rfl
theorem fld_62_3 : fieldOff Try.prog 62 3 = some 3 := by kernel_rfl
theorem zero_63 : zeroOf Try.prog 63 = some (.agg #[(.bool false), (.bool false), (.bool false), (.bool false), (.bool false), (.bool false), (.bool false), (.bool false), (.bool false)]) := by kernel_rfl
theorem arr_63 : arrTy Try.prog 63 = some (9, 1) := by kernel_rfl
theorem zero_65 : zeroOf Try.prog 65 = some (.agg #[(.pointer none), (.pointer none), (.pointer none), (.string (bs []))]) := by kernel_rfl
theorem st_65 : structTy Try.prog 65 4 = true := by kernel_rfl
theorem zero_66 : zeroOf Try.prog 66 = some (.agg #[(.pointer none), (.pointer none), (.pointer none), (.string (bs []))]) := by kernel_rfl
theorem st_66 : structTy Try.prog 66 4 = true := by kernel_rfl
theorem fld_66_0 : fieldOff Try.prog 66 0 = some 0 := by kernel_rfl
theorem fld_66_1 : fieldOff Try.prog 66 1 = some 1 := by kernel_rfl
theorem fld_66_2 : fieldOff Try.prog 66 2 = some 2 := by kernel_rfl
theorem fld_66_3 : fieldOff Try.prog 66 3 = some 3 := by kernel_rfl
theorem zero_67 : zeroOf Try.prog 67 = some (.agg #[]) := by kernel_rfl
theorem arr_67 : arrTy Try.prog 67 = some (0, 1) := by kernel_rfl
theorem zero_68 : zeroOf Try.prog 68 = some (.agg #[]) := by kernel_rfl
theorem zero_69 : zeroOf Try.prog 69 = some (.agg #[]) := by kernel_rfl
theorem pl_70 : plainTy Try.prog 70 = true := by kernel_rfl
theorem one_70 : oneTy Try.prog 70 = true := by kernel_rfl
theorem zero_70 : zeroOf Try.prog 70 = some (.int .u32 0) := by kernel_rfl
theorem pl_71 : plainTy Try.prog 71 = true := by kernel_rfl
theorem one_71 : oneTy Try.prog 71 = true := by kernel_rfl
theorem zero_71 : zeroOf Try.prog 71 = some (.int .u8 0) := by kernel_rfl
theorem pl_72 : plainTy Try.prog 72 = true := by kernel_rfl
theorem one_72 : oneTy Try.prog 72 = true := by kernel_rfl
theorem zero_72 : zeroOf Try.prog 72 = some (.int .u8 0) := by kernel_rfl
theorem pl_74 : plainTy Try.prog 74 = true := by kernel_rfl
theorem one_74 : oneTy Try.prog 74 = true := by kernel_rfl
theorem zero_74 : zeroOf Try.prog 74 = some (.pointer none) := by kernel_rfl
theorem pl_75 : plainTy Try.prog 75 = true := by kernel_rfl
theorem one_75 : oneTy Try.prog 75 = true := by kernel_rfl
theorem zero_75 : zeroOf Try.prog 75 = some (.int .i32 0) := by kernel_rfl
theorem pl_76 : plainTy Try.prog 76 = true := by kernel_rfl
theorem one_76 : oneTy Try.prog 76 = true := by kernel_rfl
theorem zero_76 : zeroOf Try.prog 76 = some (.int .i32 0) := by kernel_rfl
theorem zero_77 : zeroOf Try.prog 77 = some (.agg #[(.int .u64 0), (.int .u64 0), (.int .u32 0), (.int .u8 0), (.int .u8 0), (.int .u8 0), (.int .u8 0), .nilFunc, (.pointer none), (.int .i32 0), (.int .i32 0)]) := by kernel_rfl
theorem st_77 : structTy Try.prog 77 11 = true := by kernel_rfl
theorem zero_78 : zeroOf Try.prog 78 = some (.agg #[(.int .u64 0), (.int .u64 0), (.int .u32 0), (.int .u8 0), (.int .u8 0), (.int .u8 0), (.int .u8 0), .nilFunc, (.pointer none), (.int .i32 0), (.int .i32 0)]) := by kernel_rfl
theorem st_78 : structTy Try.prog 78 11 = true := by kernel_rfl
theorem fld_78_0 : fieldOff Try.prog 78 0 = some 0 := by kernel_rfl
theorem fld_78_1 : fieldOff Try.prog 78 1 = some 1 := by kernel_rfl
theorem fld_78_2 : fieldOff Try.prog 78 2 = some 2 := by kernel_rfl
theorem fld_78_3 : fieldOff Try.prog 78 3 = some 3 := by kernel_rfl
theorem fld_78_4 : fieldOff Try.prog 78 4 = some 4 := by kernel_rfl
theorem fld_78_5 : fieldOff Try.prog 78 5 = some 5 := by kernel_rfl
theorem fld_78_6 : fieldOff Try.prog 78 6 = some 6 := by kernel_rfl
theorem fld_78_7 : fieldOff Try.prog 78 7 = some 7 := by kernel_rfl
theorem fld_78_8 : fieldOff Try.prog 78 8 = some 8 := by kernel_rfl
theorem fld_78_9 : fieldOff Try.prog 78 9 = some 9 := by kernel_rfl
theorem fld_78_10 : fieldOff Try.prog 78 10 = some 10 := by kernel_rfl
theorem hb_3 : hasBody Try.prog 3 = true := by kernel_rfl
theorem hb_4 : hasBody Try.prog 4 = true := by kernel_rfl
theorem hb_5 : hasBody Try.prog 5 = true := by kernel_rfl
theorem hb_6 : hasBody Try.prog 6 = true := by kernel_rfl
theorem hb_7 : hasBody Try.prog 7 = true := by kernel_rfl
theorem hb_8 : hasBody Try.prog 8 = true := by kernel_rfl
theorem hb_9 : hasBody Try.prog 9 = true := by kernel_rfl
theorem hb_10 : hasBody Try.prog 10 = true := by kernel_rfl
theorem hb_11 : hasBody Try.prog 11 = true := by kernel_rfl
theorem hb_12 : hasBody Try.prog 12 = true := by kernel_rfl
theorem hb_13 : hasBody Try.prog 13 = true := by kernel_rfl
theorem hb_14 : hasBody Try.prog 14 = true := by kernel_rfl
theorem hb_15 : hasBody Try.prog 15 = true := by kernel_rfl
theorem hb_16 : hasBody Try.prog 16 = true := by kernel_rfl
theorem hb_17 : hasBody Try.prog 17 = true := by kernel_rfl
theorem hb_18 : hasBody Try.prog 18 = true := by kernel_rfl
theorem hb_19 : hasBody Try.prog 19 = true := by kernel_rfl
theorem hb_20 : hasBody Try.prog 20 = true := by kernel_rfl
theorem hb_21 : hasBody Try.prog 21 = true := by kernel_rfl
theorem hb_22 : hasBody Try.prog 22 = true := by kernel_rfl
theorem hb_23 : hasBody Try.prog 23 = true := by kernel_rfl
end Go.Proofs.Ytpamoacgajlkeaa
