/-
 AWAKE, reckoned: true, whatever the world, where the variables hold what they are laid with.
-/
import Derived.Test.YtkpblofmoalnoaaGreatDoorZr
import Derived.Test.YtkpblofmoalnoaaGreatDoorZt4
set_option linter.unusedVariables false
set_option linter.unusedSimpArgs false
namespace Go.Proofs.YtkpblofmoalnoaaGreatDoor.Ev
open Go Go.RowKit
set_option maxRecDepth 100000
noncomputable def rowsD : List Row := [rowD0]
theorem afP : ∀ r ∈ rowsD, ∃ E0, ki Tryz.prog E0 ∧ r.okB E0 = true := by
 intro r hr
 unfold rowsD at hr
 simp only [List.mem_cons, List.not_mem_nil, or_false] at hr
 rcases hr with rfl
 exact ⟨EE, @aj3, afO⟩
noncomputable def EY : kg := funY Tryz.prog (fun _ => 1000) 100000 XX [10] rowsD 60
theorem aj4 : ki Tryz.prog EY := ab1 _ kL _ _ afN afP 60
noncomputable def laid0 : List (Nat × AO) := [
 (0, .cells [.str [117, 112, 115], .str [100, 101, 97, 100, 108, 105, 110, 101], .str [104, 101, 100, 103, 101], .str [119, 97, 105, 116], .str [116, 114, 105, 101, 115], .str [114, 101, 115, 116], .str [108, 105, 109, 105, 116], .str [99, 97, 99, 104, 101], .str [102, 108, 105, 103, 104, 116, 115], .str [119, 97, 105, 116, 101, 114, 115], .str [116, 116, 108], .str [115, 105, 122, 101]] 109),
 (1, .cells [.int .u64 (.ofNat 1), .int .u64 (.ofNat 10), .int .u64 (.ofNat 100), .int .u64 (.ofNat 1000), .int .u64 (.ofNat 10000), .int .u64 (.ofNat 100000), .int .u64 (.ofNat 1000000), .int .u64 (.ofNat 10000000), .int .u64 (.ofNat 100000000), .int .u64 (.ofNat 1000000000), .int .u64 (.ofNat 10000000000), .int .u64 (.ofNat 100000000000), .int .u64 (.ofNat 1000000000000), .int .u64 (.ofNat 10000000000000), .int .u64 (.ofNat 100000000000000), .int .u64 (.ofNat 1000000000000000), .int .u64 (.ofNat 10000000000000000), .int .u64 (.ofNat 100000000000000000), .int .u64 (.ofNat 1000000000000000000), .int .u64 (.ofNat 10000000000000000000)] 200),
 (3, .cells [.ifc 476 (.ptrK 100)] 80),
 (4, .cells [.ifc 476 (.ptrK 101)] 80),
 (7, .cells [.int .u8 (.ofNat 0), .int .u8 (.ofNat 1), .int .u8 (.ofNat 28), .int .u8 (.ofNat 2), .int .u8 (.ofNat 29), .int .u8 (.ofNat 14), .int .u8 (.ofNat 24), .int .u8 (.ofNat 3), .int .u8 (.ofNat 30), .int .u8 (.ofNat 22), .int .u8 (.ofNat 20), .int .u8 (.ofNat 15), .int .u8 (.ofNat 25), .int .u8 (.ofNat 17), .int .u8 (.ofNat 4), .int .u8 (.ofNat 8), .int .u8 (.ofNat 31), .int .u8 (.ofNat 27), .int .u8 (.ofNat 13), .int .u8 (.ofNat 23), .int .u8 (.ofNat 21), .int .u8 (.ofNat 19), .int .u8 (.ofNat 16), .int .u8 (.ofNat 7), .int .u8 (.ofNat 26), .int .u8 (.ofNat 12), .int .u8 (.ofNat 18), .int .u8 (.ofNat 6), .int .u8 (.ofNat 11), .int .u8 (.ofNat 5), .int .u8 (.ofNat 10), .int .u8 (.ofNat 9)] 342),
 (8, .cells [.int .u8 (.ofNat 0), .int .u8 (.ofNat 1), .int .u8 (.ofNat 56), .int .u8 (.ofNat 2), .int .u8 (.ofNat 57), .int .u8 (.ofNat 49), .int .u8 (.ofNat 28), .int .u8 (.ofNat 3), .int .u8 (.ofNat 61), .int .u8 (.ofNat 58), .int .u8 (.ofNat 42), .int .u8 (.ofNat 50), .int .u8 (.ofNat 38), .int .u8 (.ofNat 29), .int .u8 (.ofNat 17), .int .u8 (.ofNat 4), .int .u8 (.ofNat 62), .int .u8 (.ofNat 47), .int .u8 (.ofNat 59), .int .u8 (.ofNat 36), .int .u8 (.ofNat 45), .int .u8 (.ofNat 43), .int .u8 (.ofNat 51), .int .u8 (.ofNat 22), .int .u8 (.ofNat 53), .int .u8 (.ofNat 39), .int .u8 (.ofNat 33), .int .u8 (.ofNat 30), .int .u8 (.ofNat 24), .int .u8 (.ofNat 18), .int .u8 (.ofNat 12), .int .u8 (.ofNat 5), .int .u8 (.ofNat 63), .int .u8 (.ofNat 55), .int .u8 (.ofNat 48), .int .u8 (.ofNat 27), .int .u8 (.ofNat 60), .int .u8 (.ofNat 41), .int .u8 (.ofNat 37), .int .u8 (.ofNat 16), .int .u8 (.ofNat 46), .int .u8 (.ofNat 35), .int .u8 (.ofNat 44), .int .u8 (.ofNat 21), .int .u8 (.ofNat 52), .int .u8 (.ofNat 32), .int .u8 (.ofNat 23), .int .u8 (.ofNat 11), .int .u8 (.ofNat 54), .int .u8 (.ofNat 26), .int .u8 (.ofNat 40), .int .u8 (.ofNat 15), .int .u8 (.ofNat 34), .int .u8 (.ofNat 20), .int .u8 (.ofNat 31), .int .u8 (.ofNat 10), .int .u8 (.ofNat 25), .int .u8 (.ofNat 14), .int .u8 (.ofNat 19), .int .u8 (.ofNat 9), .int .u8 (.ofNat 13), .int .u8 (.ofNat 8), .int .u8 (.ofNat 7), .int .u8 (.ofNat 6)] 343),
 (9, .cells [.ifc 476 (.ptrK 102)] 80),
 (10, .cells [.ifc 476 (.ptrK 103)] 80),
 (11, .cells [.int .u16 (.ofNat 32768), .int .u16 (.ofNat 1024), .int .u16 (.ofNat 512), .int .u16 (.ofNat 256), .int .u16 (.ofNat 128), .int .u16 (.ofNat 64), .int .u16 (.ofNat 32), .int .u16 (.ofNat 16)] 484)]
theorem ahp : laidB laid0 = true := by kernel_rfl
def sg0 (a b c d : Nat × Nat) : Sg := fun i => if i < 100 then some (i, 0) else if i = 100 then some a else if i = 101 then some b else if i = 102 then some c else if i = 103 then some d else none
theorem ahq {a b c d : Nat × Nat} : ∀ i, i < 100 → sg0 a b c d i = some (i, 0) := fun i hi => if_pos hi
theorem afQ {a b c d : Nat × Nat} : ∀ i, 104 ≤ i → sg0 a b c d i = none := fun i hi => by
 unfold sg0
 rw [if_neg (by omega), if_neg (by omega), if_neg (by omega), if_neg (by omega), if_neg (by omega)]
def Laid (L : jc) : Prop := ∃ a b c d : Nat × Nat, ∀ i o, look laid0 i = some o → ∃ O, DenO (sg0 a b c d) 0 o O ∧ (i, O) ∈ L
theorem aiu : endB EY 4 laid0 104 = true := by kernel_rfl
theorem Laid.mono {L M : jc} (h : Laid L) (hs : ∀ p ∈ L, p ∈ M) : Laid M := by
 obtain ⟨a, b, c, d, h⟩ := h
 refine ⟨a, b, c, d, fun i o hl => ?_⟩
 obtain ⟨O, h1, h2⟩ := h i o hl
 exact ⟨O, h1, hs _ h2⟩
theorem awakeE_S {G : World} {L : jc} (h : Laid L) : Spec Tryz.prog G 4 #[] L fun u M => u = .bool true ∧ M = L := by
 obtain ⟨a, b, c, d, h⟩ := h
 refine ⟨fun w hw => ((aeN @aj4 aiu ahp (by omega) ahq afQ h).out w hw).mono fun e w' hh => ?_⟩
 obtain ⟨v, M, he, ⟨hu, hs⟩, hM⟩ := hh
 exact ⟨v, L, he, ⟨hu, rfl⟩, hM.still, hw.nodup, fun p hp => hM.get p (hs p hp)⟩
end Go.Proofs.YtkpblofmoalnoaaGreatDoor.Ev
