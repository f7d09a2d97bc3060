/-
  THE PARTS of the law: each is true, by the rows.
-/
import Derived.Test.YtlicehodjhoamaaGreatDoorYr0
import Derived.Test.YtlicehodjhoamaaGreatDoorYr1
import Derived.Test.YtlicehodjhoamaaGreatDoorYr2
import Derived.Test.YtlicehodjhoamaaGreatDoorYr3
import Derived.Test.YtlicehodjhoamaaGreatDoorYr4
import Derived.Test.YtlicehodjhoamaaGreatDoorYr5
import Derived.Test.YtlicehodjhoamaaGreatDoorYr6
import Derived.Test.YtlicehodjhoamaaGreatDoorYr7
import Derived.Test.YtlicehodjhoamaaGreatDoorYr8
import Derived.Test.YtlicehodjhoamaaGreatDoorYr9
import Derived.Test.YtlicehodjhoamaaGreatDoorYr10
import Derived.Test.YtlicehodjhoamaaGreatDoorYr11
import Derived.Test.YtlicehodjhoamaaGreatDoorYr12
import Derived.Test.YtlicehodjhoamaaGreatDoorYr13
import Derived.Test.YtlicehodjhoamaaGreatDoorYr14
import Derived.Test.YtlicehodjhoamaaGreatDoorYr15
import Derived.Test.YtlicehodjhoamaaGreatDoorYr16
import Derived.Test.YtlicehodjhoamaaGreatDoorYr17
import Derived.Test.YtlicehodjhoamaaGreatDoorYr18
import Derived.Test.YtlicehodjhoamaaGreatDoorYr19
import Derived.Test.YtlicehodjhoamaaGreatDoorYr20
import Derived.Test.YtlicehodjhoamaaGreatDoorYr21
import Derived.Test.YtlicehodjhoamaaGreatDoorYr22
namespace Go.Proofs.YtlicehodjhoamaaGreatDoor.Ev
open Go
set_option linter.unusedVariables false
set_option linter.unusedSimpArgs false
set_option maxRecDepth 100000
noncomputable def rowsD : List Row := [rowD0, rowD1]
theorem rowsD_ok : ∀ r ∈ rowsD, ∃ E0, FunOk Tryz.prog E0 ∧ r.okB E0 = true := by
  intro r hr
  unfold rowsD at hr
  simp only [List.mem_cons, List.not_mem_nil, or_false] at hr
  rcases hr with rfl | rfl
  · exact ⟨EE, @EE_ok, rowD0_ok⟩
  · exact ⟨EE, @EE_ok, rowD1_ok⟩
noncomputable def EY : FunE := funY Tryz.prog (fun _ => 1000) 100000 XX [11, 25] rowsD 60
theorem EY_ok : FunOk Tryz.prog EY := funY_ok _ hmix _ _ own_ok rowsD_ok 60
noncomputable def rowP0 : Row := rowN [6,0,104,3,0,0,12,4,3,117,112,115,4,8,100,101,97,100,108,105,110,101,4,5,104,101,100,103,101,4,4,119,97,105,116,4,5,116,114,105,101,115,4,4,114,101,115,116,4,5,108,105,109,105,116,4,5,99,97,99,104,101,
4,7,102,108,105,103,104,116,115,4,7,119,97,105,116,101,114,115,4,3,116,116,108,4,4,115,105,122,101,124,1,0,20,2,7,1,2,7,10,2,7,100,2,7,1000,2,7,10000,2,7,100000,2,7,1000000,2,7,10000000,2,7,100000000,
2,7,1000000000,2,7,10000000000,2,7,100000000000,2,7,1000000000000,2,7,10000000000000,2,7,100000000000000,2,7,1000000000000000,2,7,10000000000000000,2,7,100000000000000000,2,7,1000000000000000000,2,7,
10000000000000000000,344,11,0,8,21,32768,21,1024,21,512,21,256,21,128,21,64,21,32,21,16,638,0,1,1277,0]
theorem rowP0_ok : rowP0.okB EY = true := by kernel_rfl
noncomputable def rowP153 : Row := rowN [8,1,4,682,117,112,115,32,51,10,100,101,97,100,108,105,110,101,32,50,48,10,104,101,100,103,101,32,50,10,119,97,105,116,32,53,10,116,114,105,101,115,32,50,10,114,101,115,116,32,49,48,48,10,108,105,109,
105,116,32,53,48,10,99,97,99,104,101,32,56,10,102,108,105,103,104,116,115,32,52,10,119,97,105,116,101,114,115,32,52,10,116,116,108,32,51,54,48,48,10,115,105,122,101,32,49,50,51,50,10,115,101,101,100,
32,48,10,116,97,112,101,32,48,32,48,32,48,32,48,32,48,32,48,32,48,32,48,32,48,32,48,32,48,32,48,32,48,32,48,32,48,32,48,32,48,32,48,32,48,32,48,32,48,32,48,32,48,32,48,32,48,32,48,32,48,32,48,32,48,
32,48,32,48,32,48,32,48,32,48,32,48,32,48,32,48,32,48,32,48,32,48,32,48,32,48,32,48,32,48,32,48,32,48,32,48,32,48,32,48,32,48,32,48,32,48,32,48,32,48,32,48,32,48,32,48,32,48,32,48,32,48,32,48,32,48,
32,48,32,48,32,48,32,48,32,48,32,48,32,48,32,48,32,48,32,48,32,48,32,48,32,48,32,48,32,48,32,48,32,48,32,48,32,48,32,48,32,48,32,48,32,48,32,48,32,48,32,48,32,48,32,48,32,48,32,48,32,48,32,48,32,48,
32,48,32,48,32,48,32,48,32,48,32,48,32,48,32,48,32,48,32,48,32,48,32,48,32,48,32,48,32,48,32,48,32,48,32,48,32,48,32,48,32,48,32,48,32,48,32,48,32,48,32,48,32,48,32,48,32,48,32,48,32,48,32,48,32,48,
32,48,32,48,32,48,32,48,32,48,32,48,32,48,32,48,32,48,32,48,32,48,32,48,32,48,32,48,32,48,32,48,32,48,32,48,32,48,32,48,32,48,32,48,32,48,32,48,32,48,32,48,32,48,32,48,32,48,32,48,32,48,32,48,32,48,
32,48,32,48,32,48,32,48,32,48,32,48,32,48,32,48,32,48,32,48,32,48,32,48,32,48,32,48,32,48,32,48,32,48,32,48,32,48,32,48,32,48,32,48,32,48,32,48,32,48,32,48,32,48,32,48,32,48,32,48,32,48,32,48,32,48,
32,48,32,48,32,48,32,48,32,48,32,48,32,48,32,48,32,48,32,48,32,48,32,48,32,48,32,48,32,48,32,48,32,48,32,48,32,48,32,48,32,48,32,48,32,48,32,48,32,48,32,48,32,48,32,48,32,48,32,48,32,48,32,48,32,48,
32,48,32,48,32,48,32,48,32,48,32,48,32,48,32,48,32,48,32,48,32,48,32,48,32,48,32,48,32,48,32,48,32,48,32,48,32,48,32,48,32,48,32,48,32,48,32,48,32,48,32,48,32,48,32,48,32,48,10,116,105,99,107,32,49,
48,57,57,53,49,49,54,50,55,55,55,54,10,99,108,105,101,110,116,32,50,49,52,55,52,56,51,54,52,55,32,45,10,114,101,112,108,121,32,48,32,48,48,102,102,10,12777,1,0,0,12,4,3,117,112,115,4,8,100,101,97,100,
108,105,110,101,4,5,104,101,100,103,101,4,4,119,97,105,116,4,5,116,114,105,101,115,4,4,114,101,115,116,4,5,108,105,109,105,116,4,5,99,97,99,104,101,4,7,102,108,105,103,104,116,115,4,7,119,97,105,116,
101,114,115,4,3,116,116,108,4,4,115,105,122,101,124,0,18,3,17,16,20,3,20,20,20,2,20,5,20,2,20,100,20,50,20,8,20,4,20,4,20,3600,20,1232,7,0,2,7,0,9,13603,0,256,0,9,13624,0,3,0,20,0,20,0,13625,2,13603,
1,1,30,256,2,7,0,256,26,1,256,13624,1,12,22,3,20,0,20,1099511627776,4,0,22,1,20,2147483647,20,0,4,0,22,2,20,0,20,0,4,2,0,255,3,42,4,3]
theorem rowP153_ok : rowP153.okB EY = true := by kernel_rfl
def RowOk (p : Nat × Row) : Prop := ∃ E0, FunOk Tryz.prog E0 ∧ p.2.okB E0 = true
theorem allNil : ∀ p ∈ ([] : List (Nat × Row)), RowOk p := fun p h => by cases h
theorem allCons {p : Nat × Row} {l : List (Nat × Row)} (h : RowOk p) (k : ∀ q ∈ l, RowOk q) : ∀ q ∈ p :: l, RowOk q := fun q hq => by
  rcases List.mem_cons.1 hq with rfl | hq
  · exact h
  · exact k q hq
noncomputable def rowsP : List (Nat × Row) := [(104, rowP0),
 (1280, rowP1),
 (1294, rowP2),
 (1302, rowP3),
 (1313, rowP4),
 (1322, rowP5),
 (1379, rowP6),
 (1387, rowP7),
 (1441, rowP8),
 (1611, rowP9),
 (1670, rowP10),
 (1678, rowP11),
 (1734, rowP12),
 (1906, rowP13),
 (1967, rowP14),
 (1975, rowP15),
 (2033, rowP16),
 (2211, rowP17),
 (2264, rowP18),
 (2272, rowP19),
 (2322, rowP20),
 (2496, rowP21),
 (2556, rowP22),
 (2564, rowP23),
 (2621, rowP24),
 (2801, rowP25),
 (2864, rowP26),
 (2872, rowP27),
 (2932, rowP28),
 (3112, rowP29),
 (3172, rowP30),
 (3180, rowP31),
 (3237, rowP32),
 (3417, rowP33),
 (3477, rowP34),
 (3485, rowP35),
 (3542, rowP36),
 (3718, rowP37),
 (3778, rowP38),
 (3786, rowP39),
 (3843, rowP40),
 (4027, rowP41),
 (4089, rowP42),
 (4097, rowP43),
 (4156, rowP44),
 (4334, rowP45),
 (4398, rowP46),
 (4406, rowP47),
 (4467, rowP48),
 (4651, rowP49),
 (4714, rowP50),
 (4722, rowP51),
 (4782, rowP52),
 (4966, rowP53),
 (5029, rowP54),
 (5037, rowP55),
 (5097, rowP56),
 (5279, rowP57),
 (5356, rowP58),
 (5364, rowP59),
 (5438, rowP60),
 (5644, rowP61),
 (5723, rowP62),
 (5731, rowP63),
 (5807, rowP64),
 (6017, rowP65),
 (6094, rowP66),
 (6102, rowP67),
 (6176, rowP68),
 (6382, rowP69),
 (6458, rowP70),
 (6466, rowP71),
 (6539, rowP72),
 (6737, rowP73),
 (6814, rowP74),
 (6822, rowP75),
 (6896, rowP76),
 (7104, rowP77),
 (7183, rowP78),
 (7191, rowP79),
 (7267, rowP80),
 (7475, rowP81),
 (7554, rowP82),
 (7562, rowP83),
 (7638, rowP84),
 (7846, rowP85),
 (7927, rowP86),
 (7935, rowP87),
 (8013, rowP88),
 (8223, rowP89),
 (8304, rowP90),
 (8312, rowP91),
 (8390, rowP92),
 (8600, rowP93),
 (8682, rowP94),
 (8690, rowP95),
 (8769, rowP96),
 (8979, rowP97),
 (9061, rowP98),
 (9069, rowP99),
 (9148, rowP100),
 (9358, rowP101),
 (9437, rowP102),
 (9445, rowP103),
 (9521, rowP104),
 (9733, rowP105),
 (9812, rowP106),
 (9820, rowP107),
 (9896, rowP108),
 (10106, rowP109),
 (10183, rowP110),
 (10191, rowP111),
 (10265, rowP112),
 (10475, rowP113),
 (10554, rowP114),
 (10562, rowP115),
 (10638, rowP116),
 (10848, rowP117),
 (10933, rowP118),
 (10941, rowP119),
 (11023, rowP120),
 (11241, rowP121),
 (11315, rowP122),
 (11323, rowP123),
 (11394, rowP124),
 (11591, rowP125),
 (11667, rowP126),
 (11675, rowP127),
 (11748, rowP128),
 (11956, rowP129),
 (11985, rowP130),
 (11993, rowP131),
 (12019, rowP132),
 (12111, rowP133),
 (12129, rowP134),
 (12137, rowP135),
 (12152, rowP136),
 (12187, rowP137),
 (12203, rowP138),
 (12300, rowP139),
 (12306, rowP140),
 (12315, rowP141),
 (12321, rowP142),
 (12330, rowP143),
 (12336, rowP144),
 (12345, rowP145),
 (12351, rowP146),
 (12360, rowP147),
 (12366, rowP148),
 (12375, rowP149),
 (12381, rowP150),
 (12389, rowP151),
 (12394, rowP152),
 (12777, rowP153)]
theorem rowsP_ok : ∀ p ∈ rowsP, RowOk p :=
  allCons ⟨EY, @EY_ok, rowP0_ok⟩ <|
  allCons ⟨EE, @EE_ok, rowP1_ok⟩ <|
  allCons ⟨EE, @EE_ok, rowP2_ok⟩ <|
  allCons ⟨EE, @EE_ok, rowP3_ok⟩ <|
  allCons ⟨EE, @EE_ok, rowP4_ok⟩ <|
  allCons ⟨EE, @EE_ok, rowP5_ok⟩ <|
  allCons ⟨EE, @EE_ok, rowP6_ok⟩ <|
  allCons ⟨EE, @EE_ok, rowP7_ok⟩ <|
  allCons ⟨EE, @EE_ok, rowP8_ok⟩ <|
  allCons ⟨EE, @EE_ok, rowP9_ok⟩ <|
  allCons ⟨EE, @EE_ok, rowP10_ok⟩ <|
  allCons ⟨EE, @EE_ok, rowP11_ok⟩ <|
  allCons ⟨EE, @EE_ok, rowP12_ok⟩ <|
  allCons ⟨EE, @EE_ok, rowP13_ok⟩ <|
  allCons ⟨EE, @EE_ok, rowP14_ok⟩ <|
  allCons ⟨EE, @EE_ok, rowP15_ok⟩ <|
  allCons ⟨EE, @EE_ok, rowP16_ok⟩ <|
  allCons ⟨EE, @EE_ok, rowP17_ok⟩ <|
  allCons ⟨EE, @EE_ok, rowP18_ok⟩ <|
  allCons ⟨EE, @EE_ok, rowP19_ok⟩ <|
  allCons ⟨EE, @EE_ok, rowP20_ok⟩ <|
  allCons ⟨EE, @EE_ok, rowP21_ok⟩ <|
  allCons ⟨EE, @EE_ok, rowP22_ok⟩ <|
  allCons ⟨EE, @EE_ok, rowP23_ok⟩ <|
  allCons ⟨EE, @EE_ok, rowP24_ok⟩ <|
  allCons ⟨EE, @EE_ok, rowP25_ok⟩ <|
  allCons ⟨EE, @EE_ok, rowP26_ok⟩ <|
  allCons ⟨EE, @EE_ok, rowP27_ok⟩ <|
  allCons ⟨EE, @EE_ok, rowP28_ok⟩ <|
  allCons ⟨EE, @EE_ok, rowP29_ok⟩ <|
  allCons ⟨EE, @EE_ok, rowP30_ok⟩ <|
  allCons ⟨EE, @EE_ok, rowP31_ok⟩ <|
  allCons ⟨EE, @EE_ok, rowP32_ok⟩ <|
  allCons ⟨EE, @EE_ok, rowP33_ok⟩ <|
  allCons ⟨EE, @EE_ok, rowP34_ok⟩ <|
  allCons ⟨EE, @EE_ok, rowP35_ok⟩ <|
  allCons ⟨EE, @EE_ok, rowP36_ok⟩ <|
  allCons ⟨EE, @EE_ok, rowP37_ok⟩ <|
  allCons ⟨EE, @EE_ok, rowP38_ok⟩ <|
  allCons ⟨EE, @EE_ok, rowP39_ok⟩ <|
  allCons ⟨EE, @EE_ok, rowP40_ok⟩ <|
  allCons ⟨EE, @EE_ok, rowP41_ok⟩ <|
  allCons ⟨EE, @EE_ok, rowP42_ok⟩ <|
  allCons ⟨EE, @EE_ok, rowP43_ok⟩ <|
  allCons ⟨EE, @EE_ok, rowP44_ok⟩ <|
  allCons ⟨EE, @EE_ok, rowP45_ok⟩ <|
  allCons ⟨EE, @EE_ok, rowP46_ok⟩ <|
  allCons ⟨EE, @EE_ok, rowP47_ok⟩ <|
  allCons ⟨EE, @EE_ok, rowP48_ok⟩ <|
  allCons ⟨EE, @EE_ok, rowP49_ok⟩ <|
  allCons ⟨EE, @EE_ok, rowP50_ok⟩ <|
  allCons ⟨EE, @EE_ok, rowP51_ok⟩ <|
  allCons ⟨EE, @EE_ok, rowP52_ok⟩ <|
  allCons ⟨EE, @EE_ok, rowP53_ok⟩ <|
  allCons ⟨EE, @EE_ok, rowP54_ok⟩ <|
  allCons ⟨EE, @EE_ok, rowP55_ok⟩ <|
  allCons ⟨EE, @EE_ok, rowP56_ok⟩ <|
  allCons ⟨EE, @EE_ok, rowP57_ok⟩ <|
  allCons ⟨EE, @EE_ok, rowP58_ok⟩ <|
  allCons ⟨EE, @EE_ok, rowP59_ok⟩ <|
  allCons ⟨EE, @EE_ok, rowP60_ok⟩ <|
  allCons ⟨EE, @EE_ok, rowP61_ok⟩ <|
  allCons ⟨EE, @EE_ok, rowP62_ok⟩ <|
  allCons ⟨EE, @EE_ok, rowP63_ok⟩ <|
  allCons ⟨EE, @EE_ok, rowP64_ok⟩ <|
  allCons ⟨EE, @EE_ok, rowP65_ok⟩ <|
  allCons ⟨EE, @EE_ok, rowP66_ok⟩ <|
  allCons ⟨EE, @EE_ok, rowP67_ok⟩ <|
  allCons ⟨EE, @EE_ok, rowP68_ok⟩ <|
  allCons ⟨EE, @EE_ok, rowP69_ok⟩ <|
  allCons ⟨EE, @EE_ok, rowP70_ok⟩ <|
  allCons ⟨EE, @EE_ok, rowP71_ok⟩ <|
  allCons ⟨EE, @EE_ok, rowP72_ok⟩ <|
  allCons ⟨EE, @EE_ok, rowP73_ok⟩ <|
  allCons ⟨EE, @EE_ok, rowP74_ok⟩ <|
  allCons ⟨EE, @EE_ok, rowP75_ok⟩ <|
  allCons ⟨EE, @EE_ok, rowP76_ok⟩ <|
  allCons ⟨EE, @EE_ok, rowP77_ok⟩ <|
  allCons ⟨EE, @EE_ok, rowP78_ok⟩ <|
  allCons ⟨EE, @EE_ok, rowP79_ok⟩ <|
  allCons ⟨EE, @EE_ok, rowP80_ok⟩ <|
  allCons ⟨EE, @EE_ok, rowP81_ok⟩ <|
  allCons ⟨EE, @EE_ok, rowP82_ok⟩ <|
  allCons ⟨EE, @EE_ok, rowP83_ok⟩ <|
  allCons ⟨EE, @EE_ok, rowP84_ok⟩ <|
  allCons ⟨EE, @EE_ok, rowP85_ok⟩ <|
  allCons ⟨EE, @EE_ok, rowP86_ok⟩ <|
  allCons ⟨EE, @EE_ok, rowP87_ok⟩ <|
  allCons ⟨EE, @EE_ok, rowP88_ok⟩ <|
  allCons ⟨EE, @EE_ok, rowP89_ok⟩ <|
  allCons ⟨EE, @EE_ok, rowP90_ok⟩ <|
  allCons ⟨EE, @EE_ok, rowP91_ok⟩ <|
  allCons ⟨EE, @EE_ok, rowP92_ok⟩ <|
  allCons ⟨EE, @EE_ok, rowP93_ok⟩ <|
  allCons ⟨EE, @EE_ok, rowP94_ok⟩ <|
  allCons ⟨EE, @EE_ok, rowP95_ok⟩ <|
  allCons ⟨EE, @EE_ok, rowP96_ok⟩ <|
  allCons ⟨EE, @EE_ok, rowP97_ok⟩ <|
  allCons ⟨EE, @EE_ok, rowP98_ok⟩ <|
  allCons ⟨EE, @EE_ok, rowP99_ok⟩ <|
  allCons ⟨EE, @EE_ok, rowP100_ok⟩ <|
  allCons ⟨EE, @EE_ok, rowP101_ok⟩ <|
  allCons ⟨EE, @EE_ok, rowP102_ok⟩ <|
  allCons ⟨EE, @EE_ok, rowP103_ok⟩ <|
  allCons ⟨EE, @EE_ok, rowP104_ok⟩ <|
  allCons ⟨EE, @EE_ok, rowP105_ok⟩ <|
  allCons ⟨EE, @EE_ok, rowP106_ok⟩ <|
  allCons ⟨EE, @EE_ok, rowP107_ok⟩ <|
  allCons ⟨EE, @EE_ok, rowP108_ok⟩ <|
  allCons ⟨EE, @EE_ok, rowP109_ok⟩ <|
  allCons ⟨EE, @EE_ok, rowP110_ok⟩ <|
  allCons ⟨EE, @EE_ok, rowP111_ok⟩ <|
  allCons ⟨EE, @EE_ok, rowP112_ok⟩ <|
  allCons ⟨EE, @EE_ok, rowP113_ok⟩ <|
  allCons ⟨EE, @EE_ok, rowP114_ok⟩ <|
  allCons ⟨EE, @EE_ok, rowP115_ok⟩ <|
  allCons ⟨EE, @EE_ok, rowP116_ok⟩ <|
  allCons ⟨EE, @EE_ok, rowP117_ok⟩ <|
  allCons ⟨EE, @EE_ok, rowP118_ok⟩ <|
  allCons ⟨EE, @EE_ok, rowP119_ok⟩ <|
  allCons ⟨EE, @EE_ok, rowP120_ok⟩ <|
  allCons ⟨EE, @EE_ok, rowP121_ok⟩ <|
  allCons ⟨EE, @EE_ok, rowP122_ok⟩ <|
  allCons ⟨EE, @EE_ok, rowP123_ok⟩ <|
  allCons ⟨EE, @EE_ok, rowP124_ok⟩ <|
  allCons ⟨EE, @EE_ok, rowP125_ok⟩ <|
  allCons ⟨EE, @EE_ok, rowP126_ok⟩ <|
  allCons ⟨EE, @EE_ok, rowP127_ok⟩ <|
  allCons ⟨EE, @EE_ok, rowP128_ok⟩ <|
  allCons ⟨EE, @EE_ok, rowP129_ok⟩ <|
  allCons ⟨EE, @EE_ok, rowP130_ok⟩ <|
  allCons ⟨EE, @EE_ok, rowP131_ok⟩ <|
  allCons ⟨EE, @EE_ok, rowP132_ok⟩ <|
  allCons ⟨EE, @EE_ok, rowP133_ok⟩ <|
  allCons ⟨EE, @EE_ok, rowP134_ok⟩ <|
  allCons ⟨EE, @EE_ok, rowP135_ok⟩ <|
  allCons ⟨EE, @EE_ok, rowP136_ok⟩ <|
  allCons ⟨EE, @EE_ok, rowP137_ok⟩ <|
  allCons ⟨EE, @EE_ok, rowP138_ok⟩ <|
  allCons ⟨EE, @EE_ok, rowP139_ok⟩ <|
  allCons ⟨EE, @EE_ok, rowP140_ok⟩ <|
  allCons ⟨EE, @EE_ok, rowP141_ok⟩ <|
  allCons ⟨EE, @EE_ok, rowP142_ok⟩ <|
  allCons ⟨EE, @EE_ok, rowP143_ok⟩ <|
  allCons ⟨EE, @EE_ok, rowP144_ok⟩ <|
  allCons ⟨EE, @EE_ok, rowP145_ok⟩ <|
  allCons ⟨EE, @EE_ok, rowP146_ok⟩ <|
  allCons ⟨EE, @EE_ok, rowP147_ok⟩ <|
  allCons ⟨EE, @EE_ok, rowP148_ok⟩ <|
  allCons ⟨EE, @EE_ok, rowP149_ok⟩ <|
  allCons ⟨EE, @EE_ok, rowP150_ok⟩ <|
  allCons ⟨EE, @EE_ok, rowP151_ok⟩ <|
  allCons ⟨EE, @EE_ok, rowP152_ok⟩ <|
  allCons ⟨EY, @EY_ok, rowP153_ok⟩ <|
  allNil
noncomputable def EZ : FunE := funK Tryz.prog (fun _ => 1000) 100000 XX [6, 8, 9, 11, 12, 13, 14] rowsP 60
theorem EZ_ok : FunOk Tryz.prog EZ := funK_ok _ hmix _ _ own_ok rowsP_ok 60
end Go.Proofs.YtlicehodjhoamaaGreatDoor.Ev
