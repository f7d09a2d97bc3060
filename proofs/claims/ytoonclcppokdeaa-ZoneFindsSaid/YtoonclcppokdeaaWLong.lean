/-
  THE WALKS of hustingslaw18's long and labels.
-/
import Derived.Test.YtoonclcppokdeaaWZAwake
import Derived.Test.YtoonclcppokdeaaSRow
namespace Go.Proofs.Ytoonclcppokdeaa
open Go.RowKit Go.Maps

def Short (zs : List Zn) (ns : List Nm.Bytes) : Prop := zs.length ≤ 500 ∧ ns.length ≤ 500 ∧ (∀ z ∈ zs, z.name.length < 10000) ∧ ∀ n ∈ ns, n.length < 10000
def LongPost (zs : List Zn) (ns : List Nm.Bytes) (w : World) (e : Ending) (w' : World) : Prop := w = w' ∧ ∃ r, e = .returned (.bool r) ∧ (r = false → Short zs ns)

def LongRel1 (zs : List Zn) (n i : Value) : Prop :=
  ∃ k c : Nat, i = .int .i64 k ∧ n = .int .i64 c ∧ k ≤ zs.length ∧ 20 * k ≤ c ∧ c ≤ 20020 ∧ (c < 10000 → ∀ j z, j < k → zs[j]? = some z → z.name.length < 10000)
def LongRel2 (c0 : Nat) (ns : List Nm.Bytes) (n i : Value) : Prop :=
  ∃ k c : Nat, i = .int .i64 k ∧ n = .int .i64 c ∧ k ≤ ns.length ∧ c0 + 20 * k ≤ c ∧ c ≤ 30020 ∧ (c < 10000 → ∀ j z, j < k → ns[j]? = some z → z.length < 10000)

theorem long_step (c n : Nat) : (Value.int .i64 ((c : Int) + 20 + if (n : Int) < 10000 then (n : Int) else 10000)) = .int .i64 ((c + 20 + min n 10000 : Nat) : Int) := by
  by_cases h : (n : Int) < 10000
  · rw [if_pos h]
    exact congrArg (Value.int .i64) (by omega)
  · rw [if_neg h]
    exact congrArg (Value.int .i64) (by omega)

set_option maxRecDepth 100000 in
set_option maxHeartbeats 1000000 in
theorem long_any (v u : Value) (zs : List Zn) (ns : List Nm.Bytes) (w : World) (hv : ZRow w v zs) (hu : SRow w u ns)
    (hz1 : zs.length ≤ maxLen) (hn1 : ns.length ≤ maxLen) (hz2 : ∀ z ∈ zs, z.name.length ≤ maxLen) (hn2 : ∀ n ∈ ns, n.length ≤ maxLen) :
    Calls Try.prog 18 #[v, u] w (LongPost zs ns w) := by
  obtain ⟨a, cap, rfl, hv⟩ := hv
  obtain ⟨a2, cap2, rfl, hu⟩ := hu
  have HV := Lib.hid hv
  have HU := Lib.hid hu
  have HZ2 := Lib.hid hz2
  have HN2 := Lib.hid hn2
  clear hv hu hz2 hn2
  unfold maxLen at hz1 hn1
  go_enter Try.func18, Try.ntmps18
  go_wp2_with fail
  go_loop [5, 6] (fun n i => LongRel1 zs n i) (fun _ i => zs.length - (intOf i).toNat)
  case atStart => exact ⟨0, 0, rfl, rfl, by omega, by omega, by omega, fun _ j z h => by omega⟩
  case round =>
    obtain ⟨k, c, rfl, rfl, hk, hc1, hc2, hc3⟩ := hrel
    have HC3 := Lib.hid hc3
    clear hc3
    by_cases hlt : k < zs.length ∧ c < 10000
    · obtain ⟨hlt, hcl⟩ := hlt
      obtain hz0 | ⟨b, off, ha, hlb, hcc⟩ := HV.out
      · subst hz0; simp at hlt
      subst ha
      obtain ⟨z, hzk⟩ : ∃ z, zs[k]? = some z := ⟨_, List.getElem?_eq_getElem hlt⟩
      have d1 : w.cell? ⟨b, off + k * 3, none⟩ = some (.string ⟨z.name.toArray⟩) := (hcc k z hzk).1
      have hzl := HZ2.out z (List.mem_of_getElem? hzk)
      unfold maxLen at hzl
      have HZK := Lib.hid hzk
      clear hcc hzk
      go_wp2_with fail
      rw [long_step]
      refine ⟨⟨k + 1, c + 20 + min z.name.length 10000, by go_num, rfl, by omega, by omega, by omega, fun hc j y hj hy => ?_⟩, by simp [intOf]; omega⟩
      by_cases hjk : j = k
      · subst hjk
        rw [HZK.out] at hy
        cases hy
        omega
      · exact HC3.out (by omega) j y (by omega) hy
    · have HZS := Lib.hid (show c < 10000 → 20 * zs.length ≤ c ∧ ∀ z ∈ zs, z.name.length < 10000 from fun hc => by
        have hkl : k = zs.length := by omega
        subst hkl
        refine ⟨hc1, fun z hz => ?_⟩
        obtain ⟨j, hj, rfl⟩ := List.getElem_of_mem hz
        exact HC3.out hc j _ hj (List.getElem?_eq_getElem hj))
      have hrest : ∀ (K : Prop), (k < zs.length → ¬ c < 10000 → K) → (¬ k < zs.length → K) → K := fun K h1 h2 => by
        by_cases h : k < zs.length
        · exact h1 h (fun h' => hlt ⟨h, h'⟩)
        · exact h2 h
      refine hrest _ (fun h1 h2 => ?_) (fun h1 => ?_)
      all_goals
        clear hrest
        go_wp2_with fail
        go_loop [5, 7] (fun n i => LongRel2 c ns n i) (fun _ i => ns.length - (intOf i).toNat)
        case atStart => exact ⟨0, c, rfl, rfl, by omega, by omega, by omega, fun _ j z h => by omega⟩
        case round =>
          obtain ⟨k', c', rfl, rfl, hk', hc1', hc2', hc3'⟩ := hrel
          have HC3' := Lib.hid hc3'
          clear hc3'
          by_cases hlt' : k' < ns.length ∧ c' < 10000
          · obtain ⟨hlt', hcl'⟩ := hlt'
            obtain hz0 | ⟨b, off, ha, hlb, hcc⟩ := HU.out
            · subst hz0; simp at hlt'
            subst ha
            obtain ⟨z, hzk⟩ : ∃ z, ns[k']? = some z := ⟨_, List.getElem?_eq_getElem hlt'⟩
            have d1 : w.cell? ⟨b, off + k', none⟩ = some (.string ⟨z.toArray⟩) := hcc k' z hzk
            have hzl := HN2.out z (List.mem_of_getElem? hzk)
            unfold maxLen at hzl
            have HZK := Lib.hid hzk
            clear hcc hzk
            go_wp2_with fail
            all_goals rw [long_step]
            all_goals refine ⟨⟨k' + 1, c' + 20 + min z.length 10000, by go_num, rfl, by omega, by omega, by omega, fun hc j y hj hy => ?_⟩, by simp [intOf]; omega⟩
            all_goals by_cases hjk : j = k'
            all_goals first | (subst hjk; rw [HZK.out] at hy; cases hy; omega) | exact HC3'.out (by omega) j y (by omega) hy
          · have HNS := Lib.hid (show c' < 10000 → 20 * ns.length ≤ c' ∧ ∀ z ∈ ns, z.length < 10000 from fun hc => by
              have hkl : k' = ns.length := by omega
              subst hkl
              refine ⟨by omega, fun z hz => ?_⟩
              obtain ⟨j, hj, rfl⟩ := List.getElem_of_mem hz
              exact HC3'.out hc j _ hj (List.getElem?_eq_getElem hj))
            have hrest : ∀ (K : Prop), (k' < ns.length → ¬ c' < 10000 → K) → (¬ k' < ns.length → K) → K := fun K h1 h2 => by
              by_cases h : k' < ns.length
              · exact h1 h (fun h' => hlt' ⟨h, h'⟩)
              · exact h2 h
            refine hrest _ (fun h3 h4 => ?_) (fun h3 => ?_)
            all_goals
              clear hrest
              go_wp2_with fail
              go_ret
              refine ⟨rfl, _, rfl, fun hr => ?_⟩
              have hcc : c' < 10000 := by first | (simp at hr; done) | (simp at hr; omega)
              have h5 := HNS.out hcc
              have h6 := HZS.out (by omega)
              exact ⟨by omega, by omega, h6.2, h5.2⟩
theorem zLabels_any (s : ByteArray) (w : World) (hs : s.size ≤ maxLen) :
    Calls Try.prog 27 #[.string s] w fun e w' => e = .returned (.int .i64 (cnt s.data.toList)) ∧ Below w.heap.size w w' := by
  go_enter Try.func27, Try.ntmps27
  go_wp2_with fail
  refine (Labels_any _ _ hs).mono ?_
  rintro e w2 ⟨v, rfl, hown, hb2⟩
  obtain ⟨va, vc, hv⟩ := ownsRow_slice hown
  rw [hv]
  go_wp2_with fail
  go_ret
  exact ⟨rfl, hb2⟩

end Go.Proofs.Ytoonclcppokdeaa
