/- The plain law of SlingCarries: the program's answers are the specification's. -/
import Derived.Test.YtliddinpfgpnfaaR8
namespace Go.Proofs.Ytliddinpfgpnfaa
open Go.RowKit

theorem wi_iff' {n lo hi : Int} : wi n lo hi = true ↔ lo ≤ n ∧ n ≤ hi := by simp [wi]

theorem winds_winch (cable : Int) (X Y : List Int) (V : List (List Int)) (charge lo hi : Int) :
    windsE cable X Y V charge lo hi = if winchE cable X Y V charge lo hi ≠ 0 then winchE cable X Y V charge lo hi else if liesB Y lo hi then 0 else 1 := by
  have e : boxE [(lo, hi)] = if vs lo hi then 0 else 10 := by
    rcases Bool.eq_false_or_eq_true (vs lo hi) with h | h <;> simp [boxE, wi, spannedE, anyBadS, badS, h]
  unfold windsE winchE
  rcases hoistE_or cable X Y V charge with h | h
  · rw [h, e]
    rcases Bool.eq_false_or_eq_true (vs lo hi) with h2 | h2 <;> simp [h2]
  · rw [h]; simp

/-- What holds of a right hoist, winds and a length on it. -/
structure OnH (cable : Int) (X Y : List Int) (V : List (List Int)) (lo hi : Int) : Prop where
  tab : tableE X Y V = 0
  cab : 1 ≤ cable ∧ cable ≤ 100
  x0 : hd X ≤ 0
  x1 : cable ≤ la X
  val : vs lo hi = true
  lie : liesB Y lo hi = true

theorem windsE_zero {cable : Int} {X Y : List Int} {V : List (List Int)} {charge lo hi : Int} (h : windsE cable X Y V charge lo hi = 0) : OnH cable X Y V lo hi := by
  unfold windsE at h
  rcases hoistE_or cable X Y V charge with h1 | h1
  · rw [if_neg (by rw [h1]; simp)] at h
    obtain ⟨a1, a2, a3, a4, a5, -, -⟩ := hoistE_zero h1
    split at h
    · rename_i h2
      split at h
      · rename_i h3; exact ⟨a3, ⟨a1, a2⟩, a4, a5, h2, h3⟩
      · omega
    · omega
  · rw [if_pos (by rw [h1]; decide), h1] at h; omega

theorem OnH.wind {cable : Int} {X Y : List Int} {V : List (List Int)} {lo hi : Int} (h : OnH cable X Y V lo hi) : lo ≤ hi := by
  have := h.val; simp only [vs, wi, Bool.and_eq_true, decide_eq_true_eq] at this; omega
theorem OnH.lies {cable : Int} {X Y : List Int} {V : List (List Int)} {lo hi : Int} (h : OnH cable X Y V lo hi) {a b : Int} (ha : 0 ≤ a) (hb : b ≤ cable) : liesB X a b = true := by
  have := h.x0; have := h.x1
  simp only [liesB, Bool.and_eq_true, decide_eq_true_eq]; omega
theorem OnH.points {cable : Int} {X Y : List Int} {V : List (List Int)} {lo hi : Int} (h : OnH cable X Y V lo hi) {a b : Int} (ha : 0 ≤ a) (hab : a ≤ b) (hb : b ≤ cable) : pointsE X Y V a b lo hi = 0 := by
  have hc := h.cab
  have hv : vs a b = true := by simp only [vs, wi, Bool.and_eq_true, decide_eq_true_eq]; omega
  rw [pointsE, if_pos h.tab, spannedE_two, twoE, hv, h.val, h.lies ha hb, h.lie]; rfl

theorem bear_low {cable : Int} {X Y : List Int} {V : List (List Int)} {lo hi : Int} (h : OnH cable X Y V lo hi) {n weight : Int} (h0 : 0 ≤ n) (h1 : n ≤ cable) : bearB X Y V lo hi n weight = decide (weight ≤ lowB X Y V n n lo hi) := by
  rw [bearB, refBoundV, if_pos (h.points h0 (Int.le_refl _) h1)]
theorem car_low {cable : Int} {X Y : List Int} {V : List (List Int)} {lo hi : Int} (h : OnH cable X Y V lo hi) {a b weight : Int} (h0 : 0 ≤ a) (hab : a ≤ b) (h1 : b ≤ cable) (hw : 1 ≤ weight) : carB X Y V lo hi a b weight = decide (weight ≤ lowB X Y V a b lo hi) := by
  rw [carB, h.points h0 hab h1, show decide (weight = 0) = false by simp; omega]; simp

theorem car_eq (cable : Int) (X Y : List Int) (V : List (List Int)) (charge lo hi length weight : Int) : carR cable X Y V charge lo hi length weight = carS cable X Y V charge lo hi length weight := by
  have hw := winds_winch cable X Y V charge lo hi
  unfold carR carS
  by_cases h1 : winchE cable X Y V charge lo hi = 0
  · rw [if_neg (by rw [h1]; simp)] at hw
    rw [if_neg (by rw [h1]; simp)]
    cases h2 : liesB Y lo hi
    · rw [h2] at hw
      rw [if_pos rfl, if_pos (by rw [hw]; simp), hw]; rfl
    · rw [h2] at hw
      rw [if_pos rfl] at hw
      rw [if_neg (by simp), if_neg (c := windsE cable X Y V charge lo hi ≠ 0) (by rw [hw]; simp)]
      cases h3 : wi length 0 cable
      · simp
      · cases h4 : wi weight 1 100000
        · simp
        · simp only [Bool.true_eq_false, if_false]
          have hO := windsE_zero hw
          rw [wi_iff'] at h3 h4
          rw [car_low hO h3.1 (Int.le_refl _) h3.2 h4.1, bear_low hO h3.1 h3.2]
  · rw [if_pos h1] at hw
    rw [if_pos h1, hw, if_pos h1]

/-- A span of lengths bears a weight exactly if each length does. -/
theorem span_bears {cable : Int} {X Y : List Int} {V : List (List Int)} {lo hi : Int} (h : OnH cable X Y V lo hi) {d weight : Int} (h0 : 0 ≤ d) (h1 : d ≤ cable) (hw : 1 ≤ weight) :
    carB X Y V lo hi 0 d weight = true ↔ ∀ j, 0 ≤ j → j ≤ d → bearB X Y V lo hi j weight = true := by
  rw [car_low h (Int.le_refl _) h0 h1 hw, decide_eq_true_eq]
  have hl := h.lies (Int.le_refl 0) h1
  have hwd := h.wind
  constructor
  · intro hle j hj0 hjd
    rw [bear_low h hj0 (by omega), decide_eq_true_eq]
    obtain ⟨x, y, x1, x2, y1, y2, e⟩ := lowB_at h.tab (h.lies hj0 (show j ≤ cable by omega)) h.lie (Int.le_refl j) hwd
    rw [e]
    exact Int.le_trans hle (lowB_le h.tab hl h.lie (by omega) (by omega) y1 y2)
  · intro hall
    obtain ⟨x, y, x1, x2, y1, y2, e⟩ := lowB_at h.tab hl h.lie h0 hwd
    rw [e]
    have := hall x x1 x2
    rw [bear_low h x1 (by omega), decide_eq_true_eq] at this
    exact Int.le_trans this (lowB_le h.tab (h.lies x1 (show x ≤ cable by omega)) h.lie (Int.le_refl _) (Int.le_refl _) y1 y2)

theorem deepN_cut {p : Int → Bool} {k : Nat} (n : Nat) : (∀ d : Nat, d ≤ n → p (d : Int) = decide (d < k)) → deepN p n = if k = 0 then none else some (min (k - 1) n) := by
  induction n with
  | zero =>
    intro h
    have h0 := h 0 (by omega)
    by_cases hk : k = 0
    · subst hk; simp at h0; simp [deepN, h0]
    · have : p 0 = true := by have := h0; simp at this; rw [this]; simp; omega
      simp [deepN, this, hk]
  | succ n ih =>
    intro h
    have h0 := h (n + 1) (by omega)
    have ih := ih (fun d hd => h d (by omega))
    by_cases hk : n + 1 < k
    · have hp : p ((n + 1 : Nat) : Int) = true := by rw [h0]; simpa using hk
      rw [deepN, if_pos hp, if_neg (by omega)]
      congr 1; omega
    · have hp : p ((n + 1 : Nat) : Int) = false := by rw [h0]; simpa using hk
      rw [deepN, if_neg (by rw [hp]; simp), ih]
      by_cases hk0 : k = 0
      · rw [if_pos hk0, if_pos hk0]
      · rw [if_neg hk0, if_neg hk0]; congr 1; omega

theorem firstRun_cut (q : Int → Bool) (n : Nat) : ∃ k : Nat, k ≤ n + 1 ∧ firstRun q n = (k : Int) - 1 ∧ ∀ d : Nat, d ≤ n → ((∀ j : Nat, j ≤ d → q (j : Int) = true) ↔ d < k) := by
  unfold firstRun
  cases h : (List.range (n + 1)).findIdx? (fun (d : Nat) => !q (d : Int)) with
  | none =>
    rw [List.findIdx?_eq_none_iff] at h
    refine ⟨n + 1, by omega, by simp, fun d hd => ⟨fun _ => by omega, fun _ j hj => ?_⟩⟩
    have := h j (by simp; omega)
    simpa using this
  | some i =>
    rw [List.findIdx?_eq_some_iff_getElem] at h
    obtain ⟨hi, h1, h2⟩ := h
    simp at hi
    refine ⟨i, by omega, rfl, fun d hd => ⟨fun hall => ?_, fun hdi j hj => ?_⟩⟩
    · by_cases hc : d < i
      · exact hc
      · have := hall i (by omega); simp at h1; rw [this] at h1; cases h1
    · have := h2 j (by omega); simpa using this

theorem deep_eq (cable : Int) (X Y : List Int) (V : List (List Int)) (charge lo hi weight : Int) : deepR cable X Y V charge lo hi weight = deepS cable X Y V charge lo hi weight := by
  have hw := winds_winch cable X Y V charge lo hi
  unfold deepR deepS
  by_cases h1 : winchE cable X Y V charge lo hi = 0
  · rw [if_neg (by rw [h1]; simp)] at hw
    rw [if_neg (by rw [h1]; simp)]
    cases h2 : liesB Y lo hi
    · rw [h2] at hw
      rw [if_pos rfl, if_pos (by rw [hw]; simp), hw]; rfl
    · rw [h2] at hw
      rw [if_pos rfl] at hw
      rw [if_neg (by simp), if_neg (c := windsE cable X Y V charge lo hi ≠ 0) (by rw [hw]; simp)]
      cases h4 : wi weight 1 100000
      · simp
      · simp only [Bool.true_eq_false, if_false]
        have hO := windsE_zero hw
        rw [wi_iff'] at h4
        have hc := hO.cab
        obtain ⟨k, hk, hf, hd⟩ := firstRun_cut (fun d => bearB X Y V lo hi d weight) cable.toNat
        have hp : ∀ d : Nat, d ≤ cable.toNat → carB X Y V lo hi 0 (d : Int) weight = decide (d < k) := fun d hdn => by
          rw [Bool.eq_iff_iff, span_bears hO (by omega) (by omega) h4.1, decide_eq_true_eq, ← hd d hdn]
          constructor
          · intro hall j hj; exact hall j (by omega) (by omega)
          · intro hall j hj0 hj; have := hall j.toNat (by omega); rwa [Int.toNat_of_nonneg hj0] at this
        rw [hf, deepOf, deepN_cut (p := fun d => carB X Y V lo hi 0 d weight) cable.toNat hp]
        by_cases hk0 : k = 0
        · subst hk0; simp
        · rw [if_neg hk0, if_neg (by omega)]
          simp only [Prod.mk.injEq, and_true]
          omega
  · rw [if_pos h1] at hw
    rw [if_pos h1, hw, if_pos h1]

end Go.Proofs.Ytliddinpfgpnfaa
