/-
  THE WALKS of hedge by plan: Tick, More, Close, Begin, Open, Left, Copy, Due.
-/
import Derived.Test.YtpamoacgajlkeaaHd
namespace Go.Proofs.Ytpamoacgajlkeaa
open Go.RowKit
open Hg (En Pl)
set_option linter.unusedVariables false
--store2
variable {G : World} {L : Blocks}
theorem Good.examine {p : Pl} (h : Good p) : Good (Hg.examine p) := by
  refine ⟨by simpa [Hg.examine] using h.len, by simpa [Hg.examine] using h.asked, h.want, h.tries, h.every, h.wait, h.now, h.reached, fun x hx => ?_⟩
  simp only [Hg.examine, List.mem_map] at hx
  obtain ⟨y, hy, rfl⟩ := hx
  have h1 := h.each y hy
  have h2 := h.now
  simp only [Hg.tickE, Hg.examine]
  split
  · split <;> dsimp only <;> omega
  · exact h1
theorem Good.next {p : Pl} (h : Good p) (ha : p.asked < p.list.length) : Good (Hg.next p) := by
  have h2 := h.now
  have h3 := h.tries
  refine ⟨by simpa [Hg.next] using h.len, by simp [Hg.next]; omega, h.want, h.tries, h.every, h.wait, h.now, h.reached, fun x hx => ?_⟩
  simp only [Hg.next] at hx ⊢
  obtain ⟨i, hi, rfl⟩ := List.getElem_of_mem hx
  rw [List.getElem_modify]
  have hi' : i < p.list.length := by simpa using hi
  have h1 := h.each p.list[i] (List.getElem_mem hi')
  split
  · simp only [Hg.askAt]; omega
  · exact h1
theorem Good.hedged {p : Pl} (h : Good p) : Good (Hg.hedged p).1 := by
  have h2 := h.now
  have h3 := h.every
  have h4 : 0 ≤ (p.now - p.start) / p.every := Int.ediv_nonneg (by omega) (by omega)
  have h5 : (p.now - p.start) / p.every ≤ p.now - p.start := Int.ediv_le_self _ (by omega)
  have hq : Good { p with reached := (p.now - p.start) / p.every } := ⟨h.len, h.asked, h.want, h.tries, h.every, h.wait, h.now, ⟨h4, by dsimp only; omega⟩, h.each⟩
  unfold Hg.hedged
  dsimp only
  split
  · split
    · rename_i h6; exact hq.next h6
    · exact hq
  · exact h
theorem Good.tick {p : Pl} (h : Good p) (t : Int) : Good (Hg.tick p t).1 := by
  unfold Hg.tick
  split
  · exact h
  · exact (h.advance t).examine.hedged
theorem Good.more {p : Pl} (h : Good p) (t : Int) : Good (Hg.more p t).1 := by
  unfold Hg.more
  split
  · exact h
  · dsimp only
    split
    · exact h.advance t
    · exact (h.advance t).next (by omega)
theorem closeL_len (u : Int) : ∀ l, (Hg.closeL u l).length = l.length
  | [] => rfl
  | x :: r => by
    unfold Hg.closeL
    split
    · simp
    · simp [closeL_len u r]
theorem closeL_mem (u : Int) : ∀ l, ∀ x ∈ Hg.closeL u l, ∃ y ∈ l, x.last = y.last ∧ x.asked = y.asked ∧ x.up = y.up
  | [], x, h => by simp [Hg.closeL] at h
  | z :: r, x, h => by
    unfold Hg.closeL at h
    split at h
    · rcases List.mem_cons.1 h with rfl | h
      · exact ⟨z, List.mem_cons_self .., rfl, rfl, rfl⟩
      · exact ⟨x, List.mem_cons_of_mem _ h, rfl, rfl, rfl⟩
    · rcases List.mem_cons.1 h with rfl | h
      · exact ⟨x, List.mem_cons_self .., rfl, rfl, rfl⟩
      · obtain ⟨y, h1, h2⟩ := closeL_mem u r x h
        exact ⟨y, List.mem_cons_of_mem _ h1, h2⟩
theorem Good.close {p : Pl} (h : Good p) (u : Int) : Good (Hg.close p u).1 := by
  refine ⟨by simpa [Hg.close, closeL_len] using h.len, by simpa [Hg.close, closeL_len] using h.asked, h.want, h.tries, h.every, h.wait, h.now, h.reached, fun x hx => ?_⟩
  simp only [Hg.close] at hx ⊢
  obtain ⟨y, h1, h2, h3, _⟩ := closeL_mem u _ x hx
  rw [h2, h3]
  exact h.each y h1
theorem Good.nexts : ∀ (k : Nat) {p : Pl}, Good p → k ≤ p.list.length - p.asked → Good (Hg.nexts k p).1
  | 0, p, h, _ => h
  | k + 1, p, h, hk => Good.nexts k (h.next (by omega)) (by simp only [Hg.next, List.length_modify]; omega)
theorem Good.begin' {p : Pl} (h : Good p) : Good (Hg.begin' p).1 := by
  unfold Hg.begin'
  split
  · exact h
  · exact Good.nexts _ (p := { p with begins := true }) ⟨h.len, h.asked, h.want, h.tries, h.every, h.wait, h.now, h.reached, h.each⟩ (Nat.min_le_right _ _)
theorem tick_len (p : Pl) (t : Int) : (Hg.tick p t).1.list.length = p.list.length := by
  unfold Hg.tick
  split
  · rfl
  · simp only [Hg.hedged]
    split
    · split <;> simp [Hg.next, Hg.examine, Hg.advance]
    · simp [Hg.examine, Hg.advance]
theorem tick_begins (p : Pl) (t : Int) : (Hg.tick p t).1.begins = p.begins := by
  unfold Hg.tick
  split
  · rfl
  · simp only [Hg.hedged]
    split
    · split <;> simp [Hg.next, Hg.examine, Hg.advance]
    · simp [Hg.examine, Hg.advance]
theorem more_len (p : Pl) (t : Int) : (Hg.more p t).1.list.length = p.list.length := by
  unfold Hg.more
  split
  · rfl
  · dsimp only
    split <;> simp [Hg.next, Hg.advance]
theorem more_begins (p : Pl) (t : Int) : (Hg.more p t).1.begins = p.begins := by
  unfold Hg.more
  split
  · rfl
  · dsimp only
    split <;> simp [Hg.next, Hg.advance]
theorem begin_len (p : Pl) : (Hg.begin' p).1.list.length = p.list.length := by
  unfold Hg.begin'
  split
  · rfl
  · exact (nexts_asked _ _).2.1
theorem nexts_begins : ∀ (k : Nat) (p : Pl), (Hg.nexts k p).1.begins = p.begins
  | 0, p => rfl
  | k + 1, p => nexts_begins k (Hg.next p)
theorem begin_begins (p : Pl) (h : p.made = true) : (Hg.begin' p).1.begins = true := by
  unfold Hg.begin'
  split
  · rename_i h1; simpa [h] using h1
  · exact nexts_begins _ _
theorem flat_tick (p : Pl) (t : Int) : (Hg.tick p t).2.1.length ≤ 1000000 ∧ (Hg.tick p t).2.2.length ≤ 1000000 ∨ ¬ p.list.length ≤ 9 := by
  by_cases h9 : p.list.length ≤ 9
  · left
    unfold Hg.tick
    split
    · simp
    · have f1 := flat_le (Hg.goneE (Hg.advance p t).now (Hg.advance p t).wait (Hg.advance p t).tries) (Hg.advance p t).list (fun x => by unfold Hg.goneE; split <;> simp) p.list.length
      have f2 := flat_le (Hg.sendE (Hg.advance p t).now (Hg.advance p t).wait (Hg.advance p t).tries) (Hg.advance p t).list (fun x => by unfold Hg.sendE; split <;> simp) p.list.length
      rw [List.take_of_length_le (by simp [Hg.advance])] at f1 f2
      have f3 : (Hg.hedged (Hg.examine (Hg.advance p t))).2.length ≤ 1 := by
        unfold Hg.hedged
        dsimp only
        split
        · split <;> simp
        · simp
      refine ⟨by dsimp only; omega, ?_⟩
      dsimp only
      rw [List.length_append]
      omega
  · exact Or.inr h9
theorem IsPlan.len {bp : Nat} {p : Pl} {M : Blocks} (h : IsPlan bp p M) : p.list.length ≤ 9 := h.good.len
theorem Tick_P {bp : Nat} {p : Pl} {M : Blocks} (h : IsPlan bp p M) (hb : p.begins = true) (now : Int) : Spec Try.prog G 9 #[.pointer (some ⟨bp, 0, none⟩), .int .i64 now] (M ++ L) fun u N => ∃ ag cg az cs Bg Bs M', u = .tuple #[.slice ag (Hg.tick p now).2.1.length cg, .slice az (Hg.tick p now).2.2.length cs] ∧
    Row 3 1 (.slice ag (Hg.tick p now).2.1.length cg) (Hg.tick p now).2.1.length (ints (Hg.tick p now).2.1) Bg ∧ Row 3 1 (.slice az (Hg.tick p now).2.2.length cs) (Hg.tick p now).2.2.length (ints (Hg.tick p now).2.2) Bs ∧ IsPlan bp (Hg.tick p now).1 M' ∧ N = M' ++ (Bg ++ (Bs ++ L)) := by
  obtain ⟨⟨a, c, B, hR, rfl⟩, hg⟩ := h
  refine (Tick_S bp p a c B now hR hg hb).mono ?_
  rintro _ _ ⟨vg, vs, Bg, Bs, B', rfl, h1, h2, h3, rfl⟩
  obtain ⟨ag, cg, rfl⟩ := h1.slice
  obtain ⟨az, cs, rfl⟩ := h2.slice
  exact ⟨ag, cg, az, cs, Bg, Bs, _, rfl, h1, h2, ⟨⟨a, c, B', by rw [tick_len]; exact h3, rfl⟩, hg.tick now⟩, by rw [tick_len]; rfl⟩
theorem More_P {bp : Nat} {p : Pl} {M : Blocks} (h : IsPlan bp p M) (now : Int) : Spec Try.prog G 15 #[.pointer (some ⟨bp, 0, none⟩), .int .i64 now] (M ++ L) fun u N => u = .tuple #[.int .i64 (Hg.more p now).2.1, .bool (Hg.more p now).2.2] ∧ ∃ M', IsPlan bp (Hg.more p now).1 M' ∧ N = M' ++ L := by
  obtain ⟨⟨a, c, B, hR, rfl⟩, hg⟩ := h
  refine (More_S bp p a c B now hR hg.len).mono ?_
  rintro _ _ ⟨rfl, B', h3, rfl⟩
  rw [more_len] at h3
  exact ⟨rfl, _, ⟨⟨a, c, B', by rw [more_len]; exact h3, rfl⟩, hg.more now⟩, by rw [more_len]; rfl⟩
theorem Close_P {bp : Nat} {p : Pl} {M : Blocks} (h : IsPlan bp p M) (x : Int) : Spec Try.prog G 13 #[.pointer (some ⟨bp, 0, none⟩), .int .i64 x] (M ++ L) fun u N => u = .bool (Hg.close p x).2 ∧ ∃ M', IsPlan bp (Hg.close p x).1 M' ∧ N = M' ++ L := by
  obtain ⟨⟨a, c, B, hR, rfl⟩, hg⟩ := h
  refine (Close_S bp p a c B x hR hg.len).mono ?_
  rintro _ _ ⟨rfl, B', h3, rfl⟩
  have hl : (Hg.close p x).1.list.length = p.list.length := closeL_len _ _
  exact ⟨rfl, _, ⟨⟨a, c, B', by rw [hl]; exact h3, rfl⟩, hg.close x⟩, by rw [hl]; rfl⟩
theorem Begin_P {bp : Nat} {p : Pl} {M : Blocks} (h : IsPlan bp p M) (hm : p.made = true) (hg : p.begins = false) (hz : p.asked = 0) : Spec Try.prog G 19 #[.pointer (some ⟨bp, 0, none⟩)] (M ++ L) fun u N => ∃ a1 c1 B1 M', u = .slice a1 (Hg.begin' p).2.length c1 ∧ Row 3 1 (.slice a1 (Hg.begin' p).2.length c1) (Hg.begin' p).2.length (ints (Hg.begin' p).2) B1 ∧ IsPlan bp (Hg.begin' p).1 M' ∧ N = M' ++ (B1 ++ L) := by
  obtain ⟨⟨a, c, B, hR, rfl⟩, hG⟩ := h
  refine (Begin_S bp p a c B hR hG.len hG.want hm hg hz).mono ?_
  rintro u _ ⟨B1, B', h1, h3, rfl⟩
  obtain ⟨a1, c1, rfl⟩ := h1.slice
  rw [begin_len] at h3
  exact ⟨a1, c1, B1, _, rfl, h1, ⟨⟨a, c, B', by rw [begin_len]; exact h3, rfl⟩, hG.begin'⟩, by rw [begin_len]; rfl⟩
theorem Open_P {bp : Nat} {p : Pl} {M : Blocks} (h : IsPlan bp p M) : Spec Try.prog G 10 #[.pointer (some ⟨bp, 0, none⟩)] (M ++ L) fun u N => u = .int .i64 (Hg.opens p) ∧ N = M ++ L := by
  obtain ⟨⟨a, c, B, hR, rfl⟩, hG⟩ := h
  exact Open_S bp p a c B hR hG.len
theorem Left_P {bp : Nat} {p : Pl} {M : Blocks} (h : IsPlan bp p M) : Spec Try.prog G 11 #[.pointer (some ⟨bp, 0, none⟩)] (M ++ L) fun u N => u = .int .i64 (Hg.left p) ∧ N = M ++ L := by
  obtain ⟨⟨a, c, B, hR, rfl⟩, hG⟩ := h
  exact Left_S bp p a c hG.asked hG.len
theorem Asked_P {bp : Nat} {p : Pl} {M : Blocks} (h : IsPlan bp p M) (x : Int) : Spec Try.prog G 17 #[.pointer (some ⟨bp, 0, none⟩), .int .i64 x] (M ++ L) fun u N => u = .int .i64 (Hg.askedOf p x) ∧ N = M ++ L := by
  obtain ⟨⟨a, c, B, hR, rfl⟩, hG⟩ := h
  exact Asked_S bp p a c B x hR hG.len
end Go.Proofs.Ytpamoacgajlkeaa
