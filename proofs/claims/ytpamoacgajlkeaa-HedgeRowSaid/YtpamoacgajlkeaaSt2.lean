/-
  RESULTS that lie in a variable of their own (Sl). No program in sight.
-/
import Derived.Test.YtpamoacgajlkeaaSt
namespace Go.Proofs.Ytpamoacgajlkeaa
open Go.RowKit
set_option linter.unusedVariables false
variable {G : World} {P : Program} {n : Nat} {ρ : Slots} {L : Blocks} {ty : TypeId} {Q : Exit → Act → World → Prop}
theorem TQ_retC {fn : Func} {Φ : Value → Blocks → Prop} (a t : Nat) {b k : Nat} {C : Array Value} {te : TypeId} {fr : Nat × Nat} {L' : Blocks} (hr : fn.results = #[.cell a t]) (hv : ρ.lookup a = some (.pointer (some ⟨b, 0, none⟩)))
    (ht : structTy P t k = true) (hm : (b, Obj.cells C te fr) ∈ L) (hk : C.size = k) (hl : ∀ w, Heap G w L → Heap G w L') (h : Φ (.agg C) L') : TQ G n ρ L .ret (bodyPost P fn (RetPost G Φ)) :=
  ⟨fun ac w he hw => ⟨he.defers, .agg C, by
    have h1 : ac.tmps.getD a undef = .pointer (some ⟨b, 0, none⟩) := he.reads (.tmp a) _ hv
    unfold structTy at ht
    cases hu : P.underlying t with
    | none => simp [hu] at ht
    | some d =>
      cases hi : P.info? t with
      | none => simp [hi] at ht
      | some i =>
        cases d with
        | struct fs =>
          simp [hu, hi] at ht
          have ha : (isAgg t).run P w = .ok true w := by
            unfold isAgg
            simp [run_underlying hu]
          have hc := run_loadCells_list (P := P) (w := w) ⟨b, 0, none⟩ C.toList (fun j v hj => by rw [addr_add, Nat.zero_add]; exact hw.cell hm (by simpa using hj))
          rw [Array.length_toList, hk] at hc
          rw [Array.getD_eq_getD_getElem?] at h1
          simp only [results, hr]
          simp [h1, asAddr, loadVar, ha, sizeOf, typeInfo, hi, ht, hc]
        | _ => simp [hu] at ht, _, L', rfl, h, hl w hw⟩⟩
theorem perm2 {p q : Nat × Obj} {B L : Blocks} : (p :: q :: (B ++ L)).Perm (B ++ (p :: q :: L)) := (List.perm_middle.symm.cons p).trans List.perm_middle.symm
theorem nodup_bound : ∀ (n : Nat) (l : List Int), l.Nodup → (∀ u ∈ l, 0 ≤ u ∧ u < n) → l.length ≤ n
  | 0, l, _, h => by
    cases l with
    | nil => simp
    | cons x r => have := h x (List.mem_cons_self ..); omega
  | n + 1, l, hn, h => by
    have h1 := nodup_bound n (l.erase n) (hn.erase _) (fun u hu => by
      have h2 := h u (List.mem_of_mem_erase hu)
      have h3 : u ≠ n := fun e => by subst e; exact (List.Nodup.not_mem_erase hn) hu
      omega)
    have h4 : l.length ≤ (l.erase (n : Int)).length + 1 := by rw [List.length_erase]; split <;> omega
    omega
theorem wrap_u64_nonneg (x : Int) : 0 ≤ IntKind.u64.wrap x ∧ IntKind.u64.wrap x ≤ 18446744073709551615 := by
  unfold IntKind.wrap
  simp only [IntKind.signed, IntKind.bits]
  simp
  omega
end Go.Proofs.Ytpamoacgajlkeaa
