/-
  PLAIN: zones in another row; rows of zones in memory of one's own.
-/
import Derived.Test.YtoonclcppokdeaaZl
namespace Go.Proofs.Ytoonclcppokdeaa
open Go.RowKit

theorem Good.perm {a b : List Zn} (h : Good a) (hp : a.Perm b) : Good b :=
  ⟨by rw [← hp.length_eq]; exact h.few, fun z hz => h.ok z (hp.mem_iff.2 hz), (hp.pairwise_iff (fun h => Ne.symm h)).1 h.apart⟩

theorem newE_perm {a b : List Zn} (hp : a.Perm b) : newE a = 0 ↔ newE b = 0 := by
  rw [good_iff, good_iff]
  exact ⟨fun h => h.perm hp, fun h => h.perm hp.symm⟩

theorem apart_eq : ∀ {zs : List Zn}, zs.Pairwise (fun x y => x.name ≠ y.name) → ∀ {x y : Zn}, x ∈ zs → y ∈ zs → x.name = y.name → x = y
  | [], _, _, _, hx, _, _ => by cases hx
  | z :: zs, h, x, y, hx, hy, e => by
    obtain ⟨h1, h2⟩ := List.pairwise_cons.1 h
    rcases List.mem_cons.1 hx with e1 | hx' <;> rcases List.mem_cons.1 hy with e2 | hy'
    · rw [e1, e2]
    · rw [e1] at e; exact absurd e (h1 y hy')
    · rw [e2] at e; exact absurd e.symm (h1 x hx')
    · exact apart_eq h2 hx' hy' e

theorem suffix_len {α : Type} {a b l : List α} (ha : a <:+ l) (hb : b <:+ l) (h : a.length = b.length) : a = b := by
  obtain ⟨x, rfl⟩ := ha
  obtain ⟨y, hy⟩ := hb
  exact ((List.append_inj' hy h.symm).2).symm

theorem Found.unique {zs : List Zn} {ls : List Nm.Bytes} {z z' : Zn} (hg : Good zs) (h : Found zs ls z) (h' : Found zs ls z') : z = z' := by
  rcases h with ⟨s, h1, h2, h3, h4⟩ | ⟨h1, h2⟩ <;> rcases h' with ⟨s', g1, g2, g3, g4⟩ | ⟨g1, g2⟩
  · rcases Nat.lt_trichotomy s.length s'.length with hlt | heq | hgt
    · exact absurd g3 (h4 s' g1 hlt z' g2)
    · have := suffix_len h1 g1 heq
      subst this
      exact apart_eq hg.apart h2 g2 (h3.trans g3.symm)
    · exact absurd h3 (g4 s h1 hgt z h2)
  · exact absurd h3 (g2 s h1 z h2)
  · exact absurd g3 (h2 s' g1 z' g2)
  · exact h1.trans g1.symm

theorem Found.perm {a b : List Zn} {ls : List Nm.Bytes} {z : Zn} (h : Found a ls z) (hp : a.Perm b) : Found b ls z := by
  rcases h with ⟨s, h1, h2, h3, h4⟩ | ⟨h1, h2⟩
  · exact Or.inl ⟨s, h1, hp.mem_iff.1 h2, h3, fun s' hs hl y hy => h4 s' hs hl y (hp.mem_iff.2 hy)⟩
  · exact Or.inr ⟨h1, fun s' hs y hy => h2 s' hs y (hp.mem_iff.2 hy)⟩

theorem findZ_perm {a b : List Zn} (hg : Good a) (hp : a.Perm b) (n : Nm.Bytes) : findZ a n = findZ b n := by
  cases h : Nm.nm n with
  | none => rw [findZ_none h, findZ_none h]
  | some ls => exact Found.unique (hg.perm hp) ((findZ_found h).perm hp) (findZ_found h)

/-! ### rows -/
def zcells (z : Zn) : List Value := [.string ⟨z.name.toArray⟩, .int .u8 z.pol, .int .u16 z.tru]
def zflat (zs : List Zn) : List Value := zs.flatMap zcells
theorem zflat_length (zs : List Zn) : (zflat zs).length = zs.length * 3 := by
  induction zs with
  | nil => rfl
  | cons z zs ih => simp [zflat, zcells] at ih ⊢; omega
theorem zflat_append (a b : List Zn) : zflat (a ++ b) = zflat a ++ zflat b := by simp [zflat]
theorem zflat_at : ∀ (zs : List Zn) (i j : Nat) (z : Zn), zs[i]? = some z → j < 3 → (zflat zs)[i * 3 + j]? = (zcells z)[j]?
  | [], i, _, z, h, _ => by simp at h
  | y :: zs, 0, j, z, h, hj => by
    simp at h
    subst h
    have : zflat (y :: zs) = zcells y ++ zflat zs := by simp [zflat]
    rw [this, Nat.zero_mul, Nat.zero_add, List.getElem?_append_left (by simp [zcells]; exact hj)]
  | y :: zs, i + 1, j, z, h, hj => by
    have : zflat (y :: zs) = zcells y ++ zflat zs := by simp [zflat]
    rw [this, List.getElem?_append_right (by simp [zcells]; omega)]
    have e : (i + 1) * 3 + j - (zcells y).length = i * 3 + j := by simp [zcells]; omega
    rw [e]
    exact zflat_at zs i j z (by simpa using h) hj

theorem ZRow.own {w : World} {base : Nat} {v : Value} {zs : List Zn} {e : TypeId} (h : w.ownsRow base e 3 v zs.length (zflat zs)) : ZRow w v zs := by
  obtain ⟨_, ⟨rfl, h0⟩ | ⟨g, cap, cur, rfl, _, hg, _, _, _, htk⟩⟩ := h
  · have : zs = [] := List.eq_nil_of_length_eq_zero h0
    subst this
    exact ⟨none, 0, rfl, Or.inl rfl⟩
  · refine ⟨_, cap, rfl, Or.inr ⟨g, 0, rfl, (Array.getElem?_eq_some_iff.1 hg).1, fun i z hi => ?_⟩⟩
    have hil : i < zs.length := (List.getElem?_eq_some_iff.1 hi).1
    have hc : ∀ j, j < 3 → w.cell? ⟨g, 0 + (i * 3 + j), none⟩ = (zcells z)[j]? := fun j hj => by
      rw [← zflat_at zs i j z hi hj, ← htk, List.getElem?_take_of_lt (by omega)]
      unfold World.cell?
      rw [hg]
      simp
    have h0 := hc 0 (by omega)
    have h1 := hc 1 (by omega)
    have h2 := hc 2 (by omega)
    exact ⟨h0, h1, h2⟩

/-! ### turned about -/
def rot (zs : List Zn) (r : Nat) : List Zn := zs.drop r ++ zs.take r
theorem rot_perm (zs : List Zn) (r : Nat) : (rot zs r).Perm zs := by
  unfold rot
  have := List.perm_append_comm (l₁ := zs.drop r) (l₂ := zs.take r)
  rwa [List.take_append_drop] at this
theorem rot_length (zs : List Zn) (r : Nat) : (rot zs r).length = zs.length := (rot_perm zs r).length_eq
theorem rot_at (zs : List Zn) (r k : Nat) (hr : r < zs.length) (hk : k < zs.length) : (rot zs r)[k]? = zs[(k + r) % zs.length]? := by
  unfold rot
  by_cases h : k + r < zs.length
  · rw [Nat.mod_eq_of_lt h, List.getElem?_append_left (by simp; omega), List.getElem?_drop, Nat.add_comm]
  · rw [List.getElem?_append_right (by simp; omega)]
    have : (k + r) % zs.length = k + r - zs.length := by
      rw [Nat.mod_eq_sub_mod (by omega), Nat.mod_eq_of_lt (by omega)]
    rw [this, List.getElem?_take_of_lt (by simp; omega)]
    congr 1
    simp
    omega

end Go.Proofs.Ytoonclcppokdeaa
