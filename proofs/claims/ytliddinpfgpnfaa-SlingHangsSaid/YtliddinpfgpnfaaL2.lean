/- The plain law of an axis: it ascends, and a number on it lies in the part that the search tells. -/
import Derived.Test.YtliddinpfgpnfaaA11
namespace Go.Proofs.Ytliddinpfgpnfaa
open Go.RowKit

theorem axB_steps {X : List Int} (h : axB X = true) : ∀ k, k < X.length → axStep X k = true := by
  simp only [axB, Bool.and_eq_true, List.all_eq_true, List.mem_range] at h
  exact h.2

/-- The k-th knot. -/
def kn (X : List Int) (k : Nat) : Int := X.getD k 0

theorem kn_get {X : List Int} {k : Nat} {x : Int} (h : X[k]? = some x) : kn X k = x := by simp [kn, List.getD_eq_getElem?_getD, h]
theorem kn_some {X : List Int} {k : Nat} (h : k < X.length) : X[k]? = some (kn X k) := by simp [kn, List.getD_eq_getElem?_getD, h]

theorem kn_bound {X : List Int} (h : axB X = true) (k : Nat) (hk : k < X.length) : -1000000 ≤ kn X k ∧ kn X k ≤ 1000000 := by
  have := axB_steps h k hk
  simp only [axStep, Bool.and_eq_true, wi, decide_eq_true_eq] at this
  exact this.1
theorem kn_step {X : List Int} (h : axB X = true) (k : Nat) (hk : k + 1 < X.length) : 1 ≤ kn X (k + 1) - kn X k ∧ kn X (k + 1) - kn X k ≤ 10000 := by
  have := axB_steps h (k + 1) hk
  simp only [axStep, Bool.and_eq_true, Bool.or_eq_true, beq_iff_eq, wi, decide_eq_true_eq] at this
  rcases this.2 with h | h
  · omega
  · exact h

theorem kn_lt {X : List Int} (h : axB X = true) (b : Nat) : ∀ a, a < b → b < X.length → kn X a < kn X b := by
  induction b with
  | zero => intro a ha; omega
  | succ b ih =>
    intro a ha hb
    have := (kn_step h b hb).1
    by_cases e : a = b
    · subst e; omega
    · have := ih a (by omega) (by omega); omega
theorem kn_le {X : List Int} (h : axB X = true) (a b : Nat) (hab : a ≤ b) (hb : b < X.length) : kn X a ≤ kn X b := by
  by_cases e : a = b
  · subst e; omega
  · have := kn_lt h b a (by omega) hb; omega

/-- The knots between the ends. -/
def inner (X : List Int) : List Int := (X.drop 1).take (X.length - 2)
theorem inner_len (X : List Int) : (inner X).length = X.length - 2 := by simp [inner]; omega
theorem inner_get (X : List Int) (k : Nat) (h : k < X.length - 2) : (inner X)[k]? = some (kn X (k + 1)) := by
  rw [inner, List.getElem?_take, if_pos h, List.getElem?_drop, Nat.add_comm 1 k]
  exact kn_some (by omega)
theorem inner_sorted {X : List Int} (h : axB X = true) : Sorted (inner X) := by
  intro a b y z hab hy hz
  have hb : b < X.length - 2 := by rw [← inner_len]; exact (List.getElem?_eq_some_iff.1 hz).1
  rw [inner_get X a (by omega)] at hy
  rw [inner_get X b hb] at hz
  cases hy; cases hz
  exact kn_lt h _ _ (by omega) (by omega)

theorem lows_below (zs : List Int) (hs : Sorted zs) (x : Int) : Lows zs x (below zs x) (below zs x) := by
  induction zs with
  | nil => exact ⟨Nat.le_refl _, Nat.le_refl _, fun m z _ h => by simp at h, fun m z _ h => by simp at h⟩
  | cons a zs ih =>
    have hs' : Sorted zs := fun i j y z hij hy hz => hs (i + 1) (j + 1) y z (by omega) (by simpa using hy) (by simpa using hz)
    obtain ⟨_, h2, h3, h4⟩ := ih hs'
    by_cases ha : a < x
    · have e : below (a :: zs) x = below zs x + 1 := by simp [below, ha]
      rw [e]
      refine ⟨Nat.le_refl _, by simpa using h2, fun m z hm hz => ?_, fun m z hm hz => ?_⟩
      · cases m with
        | zero => simp at hz; omega
        | succ m => exact h3 m z (by omega) (by simpa using hz)
      · cases m with
        | zero => omega
        | succ m => exact h4 m z (by omega) (by simpa using hz)
    · have hall : ∀ (m : Nat) (z : Int), (a :: zs)[m]? = some z → x ≤ z := by
        intro m z hz
        cases m with
        | zero => simp at hz; omega
        | succ m => have := hs 0 (m + 1) a z (by omega) (by simp) hz; omega
      have e : below (a :: zs) x = 0 := by
        simp only [below, List.length_eq_zero_iff, List.filter_eq_nil_iff]
        intro z hz
        obtain ⟨m, hm⟩ := List.getElem?_of_mem hz
        have := hall m z hm
        simp; omega
      rw [e]
      exact ⟨Nat.le_refl _, Nat.zero_le _, fun m z hm => by omega, fun m z _ hz => hall m z hz⟩

/-- The part of an axis where a number is. -/
def cellN (X : List Int) (x : Int) : Nat := below (inner X) x

theorem cell_at {X : List Int} (h : axB X = true) {x : Int} (h0 : hd X ≤ x) (h1 : x ≤ la X) :
    cellN X x + 1 < X.length ∧ kn X (cellN X x) ≤ x ∧ x ≤ kn X (cellN X x + 1) := by
  have hl := axB_len h
  obtain ⟨_, a2, a3, a4⟩ := lows_below (inner X) (inner_sorted h) x
  rw [inner_len] at a2
  refine ⟨by unfold cellN; omega, ?_, ?_⟩
  · cases e : cellN X x with
    | zero => exact h0
    | succ m =>
      have := a3 m (kn X (m + 1)) (by unfold cellN at e; omega) (inner_get X m (by unfold cellN at e; omega))
      omega
  · by_cases e : cellN X x < X.length - 2
    · exact a4 _ _ (Nat.le_refl _) (inner_get X _ e)
    · have : cellN X x + 1 = X.length - 1 := by unfold cellN at *; omega
      rw [this]
      exact h1

end Go.Proofs.Ytliddinpfgpnfaa
