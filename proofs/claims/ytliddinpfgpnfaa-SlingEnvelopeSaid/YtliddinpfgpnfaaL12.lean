/- The plain law of keeping a limit: the first tick behind which it is not kept, and the greatest gusts with which it is. -/
import Derived.Test.YtliddinpfgpnfaaL11
namespace Go.Proofs.Ytliddinpfgpnfaa
open Go.RowKit

/-- The first number up to n of which p holds. -/
def kF (p : Nat → Bool) (n : Nat) : Option Nat := (List.range (n + 1)).find? p
def kT (p : Nat → Bool) (n : Nat) : Int := match kF p n with | some t => t | none => 0
def kB (p : Nat → Bool) (n : Nat) : Bool := (kF p n).isSome

theorem kF_some {p : Nat → Bool} {n t : Nat} (h : ∀ j, j < t → p j = false) (ht : t ≤ n) (hp : p t = true) : kF p n = some t := by
  unfold kF
  rw [List.find?_eq_some_iff_getElem]
  refine ⟨hp, t, by simp; omega, by simp, fun j hj => ?_⟩
  simp [h j hj]

theorem kF_none {p : Nat → Bool} {n : Nat} (h : ∀ j, j < n + 1 → p j = false) : kF p n = none := by
  unfold kF
  rw [List.find?_eq_none]
  intro x hx
  rw [h x (by simpa using hx)]
  simp

theorem kF_is {p : Nat → Bool} {n t : Nat} (h : kF p n = some t) : t ≤ n ∧ p t = true ∧ ∀ j, j < t → p j = false := by
  unfold kF at h
  rw [List.find?_eq_some_iff_getElem] at h
  obtain ⟨h1, i, hi, h2, h3⟩ := h
  simp at hi h2
  subst h2
  refine ⟨by omega, h1, fun j hj => ?_⟩
  have := h3 j hj
  simpa using this

theorem kF_not {p : Nat → Bool} {n : Nat} (h : kF p n = none) : ∀ t, t ≤ n → p t = false := by
  unfold kF at h
  rw [List.find?_eq_none] at h
  intro t ht
  have := h t (by simp; omega)
  simpa using this

theorem kT_some {p : Nat → Bool} {n t : Nat} (h : kF p n = some t) : kT p n = t ∧ kB p n = true := by simp [kT, kB, h]
theorem kT_none {p : Nat → Bool} {n : Nat} (h : kF p n = none) : kT p n = 0 ∧ kB p n = false := by simp [kT, kB, h]

theorem kF_congr {p q : Nat → Bool} {n : Nat} (h : ∀ t, t ≤ n → p t = q t) : kF p n = kF q n := by
  cases hp : kF p n with
  | none => exact (kF_none (fun j hj => by rw [← h j (by omega)]; exact kF_not hp j (by omega))).symm
  | some t =>
    obtain ⟨h1, h2, h3⟩ := kF_is hp
    exact (kF_some (fun j hj => by rw [← h j (by omega)]; exact h3 j hj) h1 (by rw [← h t h1]; exact h2)).symm

/-- Behind t ticks the load may be out of the limit. -/
def outB (num damp D : Int) (b0 b1 g : Int × Int) (ll lh : Int) (t : Nat) : Bool := decide (mostN num damp D b0 b1 g t false < ll * D ^ t) || decide (lh * D ^ t < mostN num damp D b0 b1 g t true)

/-- The greatest number up to g of which q holds. -/
def gDown (q : Nat → Bool) : Nat → Option Nat
  | 0 => if q 0 then some 0 else none
  | g + 1 => if q (g + 1) then some (g + 1) else gDown q g

theorem gDown_is {q : Nat → Bool} {g r : Nat} (h : gDown q g = some r) : r ≤ g ∧ q r = true ∧ ∀ j, r < j → j ≤ g → q j = false := by
  induction g with
  | zero =>
    simp only [gDown] at h
    split at h
    · cases h; exact ⟨Nat.le_refl _, by assumption, fun j h1 h2 => by omega⟩
    · cases h
  | succ g ih =>
    simp only [gDown] at h
    split at h
    · cases h; exact ⟨Nat.le_refl _, by assumption, fun j h1 h2 => by omega⟩
    · rename_i hq
      obtain ⟨h1, h2, h3⟩ := ih h
      refine ⟨by omega, h2, fun j hj hg => ?_⟩
      by_cases e : j = g + 1
      · subst e; simpa using hq
      · exact h3 j hj (by omega)

theorem gDown_none {q : Nat → Bool} {g : Nat} (h : gDown q g = none) : ∀ j, j ≤ g → q j = false := by
  induction g with
  | zero =>
    simp only [gDown] at h
    split at h
    · cases h
    · rename_i hq; intro j hj; obtain rfl : j = 0 := by omega
      simpa using hq
  | succ g ih =>
    simp only [gDown] at h
    split at h
    · cases h
    · rename_i hq
      intro j hj
      by_cases e : j = g + 1
      · subst e; simpa using hq
      · exact ih h j (by omega)

theorem lim_abs {num damp D l : Int} (h : ok3 num damp D) (hl : (l.natAbs : Int) ≤ 1000000) {n : Nat} (hn : n ≤ 16) : ((l * D ^ n).natAbs : Int) ≤ 4294967296000000 := by
  obtain ⟨p1, p2⟩ := pow_small D h.1 h.2.1 n hn
  rw [Int.natAbs_mul]; push_cast
  have := Int.mul_le_mul hl (show ((D ^ n).natAbs : Int) ≤ 4294967296 by omega) (by omega) (by omega)
  omega

end Go.Proofs.Ytliddinpfgpnfaa
