/- The plain law of holding two fractions against each other by their whole parts and turned rests. -/
import Derived.RowKit
namespace Go.Proofs.Ytliddinpfgpnfaa
set_option linter.unusedVariables false

theorem floor_t {a b : Int} (hb : 0 < b) : (a.tmod b < 0 → a / b = a.tdiv b - 1) ∧ (¬ a.tmod b < 0 → a / b = a.tdiv b) := by
  have h1 := Int.tdiv_eq_ediv (a := a) (b := b)
  have h2 := Int.tmod_eq_emod (a := a) (b := b)
  have h3 := Int.emod_nonneg a (show b ≠ 0 by omega)
  have h4 := Int.emod_lt_of_pos a hb
  have hs : b.sign = 1 := Int.sign_eq_one_of_pos hb
  rw [hs] at h1
  split at h1
  · rename_i hc
    rw [if_pos hc] at h2
    omega
  · rename_i hc
    rw [if_neg hc] at h2
    omega

theorem tdiv_abs {a b : Int} (hb : 0 < b) {B : Int} (h : (a.natAbs : Int) ≤ B) : ((a.tdiv b).natAbs : Int) ≤ B := by
  have : (a.tdiv b).natAbs = a.natAbs / b.natAbs := Int.natAbs_tdiv ..
  have h2 : a.natAbs / b.natAbs ≤ a.natAbs := Nat.div_le_self _ _
  omega

theorem div_lt_cross {a b c d : Int} (hb : 0 < b) (hd : 0 < d) (h : a / b < c / d) : a * d < c * b := by
  have h1 := Int.mul_ediv_add_emod a b
  have h2 := Int.emod_lt_of_pos a hb
  have h3 := Int.mul_ediv_add_emod c d
  have h4 := Int.emod_nonneg c (show d ≠ 0 by omega)
  have e1 : a * d = b * (a / b) * d + a % b * d := by rw [← Int.add_mul, h1]
  have e2 : c * b = d * (c / d) * b + c % d * b := by rw [← Int.add_mul, h3]
  have m1 : a % b * d < b * d := Int.mul_lt_mul_of_pos_right h2 hd
  have m2 : 0 ≤ c % d * b := Int.mul_nonneg h4 (by omega)
  have m3 : b * d * (a / b + 1) ≤ b * d * (c / d) := Int.mul_le_mul_of_nonneg_left (by omega) (Int.mul_nonneg (by omega) (by omega))
  have e3 : b * d * (a / b + 1) = b * (a / b) * d + b * d := by grind
  have e4 : b * d * (c / d) = d * (c / d) * b := by grind
  omega

theorem cross_floor {a b c d : Int} (hb : 0 < b) (hd : 0 < d) (h : a / b ≠ c / d) : decide (a * d < c * b) = decide (a / b < c / d) := by
  rw [Bool.eq_iff_iff, decide_eq_true_iff, decide_eq_true_iff]
  constructor
  · intro h1
    rcases Int.lt_or_gt_of_ne h with h2 | h2
    · exact h2
    · have := div_lt_cross hd hb h2; omega
  · exact div_lt_cross hb hd

theorem cross_rest {a b c d : Int} (hb : 0 < b) (hd : 0 < d) (h : a / b = c / d) : decide (a * d < c * b) = decide ((a % b) * d < (c % d) * b) := by
  have h1 := Int.mul_ediv_add_emod a b
  have h3 := Int.mul_ediv_add_emod c d
  have e1 : a * d = b * (a / b) * d + a % b * d := by rw [← Int.add_mul, h1]
  have e2 : c * b = d * (c / d) * b + c % d * b := by rw [← Int.add_mul, h3]
  have e3 : b * (a / b) * d = d * (c / d) * b := by rw [h]; grind
  rw [Bool.eq_iff_iff, decide_eq_true_iff, decide_eq_true_iff]
  omega

/-- A turn of both rests. -/
theorem turn_step {a b c d : Int} (ha : 0 < a) (hc : 0 < c) (h : d / c = b / a) : decide (a * d < c * b) = decide ((d % c) * a < (b % a) * c) := by
  rw [← cross_rest hc ha h]
  congr 1
  rw [Int.mul_comm a d, Int.mul_comm c b]

theorem turn_floor {a b c d : Int} (ha : 0 < a) (hc : 0 < c) (h : d / c ≠ b / a) : decide (a * d < c * b) = decide (d / c < b / a) := by
  rw [← cross_floor hc ha h]
  congr 1
  rw [Int.mul_comm a d, Int.mul_comm c b]

end Go.Proofs.Ytliddinpfgpnfaa
