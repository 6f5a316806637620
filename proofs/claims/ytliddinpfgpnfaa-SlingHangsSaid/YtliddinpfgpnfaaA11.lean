/- Contracts: fractions rounded, and a search in sorted numbers. -/
import Derived.Test.YtliddinpfgpnfaaA10
namespace Go.Proofs.Ytliddinpfgpnfaa
open Go Go.RowKit Go.Sort
set_option linter.unusedSimpArgs false
set_option linter.unusedVariables false

theorem floor_neg (a b : Int) (ha : a < 0) (hb : 0 < b) : (Int.tmod a b < 0 → Int.tdiv a b - 1 = a / b) ∧ (¬ Int.tmod a b < 0 → Int.tdiv a b = a / b) := by
  have e1 := Int.tmod_add_mul_tdiv a b
  have e2 := Int.emod_add_mul_ediv a b
  have e3 := Int.emod_nonneg a (show b ≠ 0 by omega)
  have e4 := Int.emod_lt_of_pos a hb
  have e5 := Int.tmod_eq_emod (a := a) (b := b)
  constructor
  · intro h
    have : b * (Int.tdiv a b - 1) = b * (a / b) := by
      rw [Int.mul_sub]
      split at e5 <;> omega
    exact Int.eq_of_mul_eq_mul_left (by omega) this
  · intro h
    have : b * Int.tdiv a b = b * (a / b) := by
      split at e5 <;> omega
    exact Int.eq_of_mul_eq_mul_left (by omega) this

theorem tdiv_bound (a b : Int) (ha : -1000000000000000000 ≤ a) (ha' : a < 0) (hb : 0 < b) : -1000000000000000000 ≤ Int.tdiv a b ∧ Int.tdiv a b ≤ 0 := by
  have h1 : Int.tdiv a b = -((-a) / b) := by rw [show a = -(-a) by omega, Int.neg_tdiv, Int.tdiv_eq_ediv_of_nonneg (by omega)]; simp
  have h2 := Int.ediv_nonneg (show 0 ≤ -a by omega) (show 0 ≤ b by omega)
  have h3 := Int.ediv_le_self b (show 0 ≤ -a by omega)
  omega

set_option maxHeartbeats 1600000 in
theorem spans_floor (a b : Int) (w : World) (ha : -1000000000000000000 ≤ a) (ha' : a ≤ 1000000000000000000) (hb : 0 < b) (hb' : b ≤ 1000000000000000000) :
    Calls Try.prog 58 #[.int .i64 a, .int .i64 b] w fun e w' => e = .returned (.int .i64 (a / b)) ∧ w = w' := by
  have hbz : (b == 0) = false := by simp; omega
  by_cases h : 0 ≤ a
  · have h1 := Int.emod_nonneg a (show b ≠ 0 by omega)
    have h2 := Int.ediv_nonneg h (show 0 ≤ b by omega)
    have h3 := Int.ediv_le_self b h
    go_enter Try.func58, Try.ntmps58
    go_wp2
    go_ret
    exact ⟨ret_int (by first | rfl | exact Int.tdiv_eq_ediv_of_nonneg h), rfl⟩
  · have hn := Lib.hid (floor_neg a b (by omega) hb)
    obtain ⟨t1, t2⟩ := tdiv_bound a b ha (by omega) hb
    by_cases hm : Int.tmod a b < 0
    · go_enter Try.func58, Try.ntmps58
      go_wp2
      go_ret
      exact ⟨ret_int (hn.out.1 hm), rfl⟩
    · go_enter Try.func58, Try.ntmps58
      go_wp2
      go_ret
      exact ⟨ret_int (hn.out.2 hm), rfl⟩

set_option maxHeartbeats 1600000 in
theorem spans_ceil (a b : Int) (w : World) (ha : -1000000000000000000 ≤ a) (ha' : a ≤ 1000000000000000000) (hb : 0 < b) (hb' : b ≤ 1000000000000000000) :
    Calls Try.prog 59 #[.int .i64 a, .int .i64 b] w fun e w' => e = .returned (.int .i64 (-((-a) / b))) ∧ w = w' := by
  have t1 : -1000000000000000000 ≤ (-a) / b := by
    rw [Int.le_ediv_iff_mul_le hb]
    omega
  have t2 : (-a) / b ≤ 1000000000000000000 := by
    have := Int.ediv_le_ediv hb (show -a ≤ 1000000000000000000 by omega)
    have := Int.ediv_le_self b (show (0 : Int) ≤ 1000000000000000000 by omega)
    omega
  go_enter Try.func59, Try.ntmps59
  go_wp2_with (go_at_call 58; refine (spans_floor _ _ _ (by omega) (by omega) hb hb').mono ?_; rintro e w' ⟨rfl, rfl⟩)
  go_ret
  exact ⟨rfl, rfl⟩

theorem cmp_isNaN (a : Int) (w : World) : Calls Try.prog 118 #[.int .i64 a] w fun e w' => e = .returned (.bool false) ∧ w = w' := by
  go_enter Try.func118, Try.ntmps118
  go_wp2
  go_ret
  exact ⟨ret_bool (by simp), rfl⟩

theorem slices_isNaN (a : Int) (w : World) : Calls Try.prog 114 #[.int .i64 a] w fun e w' => e = .returned (.bool false) ∧ w = w' := by
  go_enter Try.func114, Try.ntmps114
  go_wp2
  go_ret
  exact ⟨ret_bool (by simp), rfl⟩

theorem cmp_Less (a b : Int) (w : World) : Calls Try.prog 113 #[.int .i64 a, .int .i64 b] w fun e w' => e = .returned (.bool (decide (a < b))) ∧ w = w' := by
  go_enter Try.func113, Try.ntmps113
  go_wp2_with (go_at_call 118; refine (cmp_isNaN _ _).mono ?_; rintro e w' ⟨rfl, rfl⟩)
  go_ret
  exact ⟨rfl, rfl⟩

/-- How many numbers are less. -/
def below (zs : List Int) (x : Int) : Nat := (zs.filter fun z => decide (z < x)).length

def Lows (zs : List Int) (x : Int) (i j : Nat) : Prop := i ≤ j ∧ j ≤ zs.length ∧ (∀ m z, m < i → zs[m]? = some z → z < x) ∧ (∀ m z, j ≤ m → zs[m]? = some z → x ≤ z)

theorem below_eq {zs : List Int} {x : Int} {i : Nat} (h : Lows zs x i i) : below zs x = i := by
  obtain ⟨_, hi, h1, h2⟩ := h
  unfold below
  rw [← List.take_append_drop i zs, List.filter_append, List.length_append]
  have e1 : (zs.take i).filter (fun z => decide (z < x)) = zs.take i := by
    rw [List.filter_eq_self]
    intro z hz
    obtain ⟨m, hm⟩ := List.getElem?_of_mem hz
    rw [List.getElem?_take] at hm
    split at hm
    · simpa using h1 m z ‹_› hm
    · cases hm
  have e2 : (zs.drop i).filter (fun z => decide (z < x)) = [] := by
    rw [List.filter_eq_nil_iff]
    intro z hz
    obtain ⟨m, hm⟩ := List.getElem?_of_mem hz
    rw [List.getElem?_drop] at hm
    have := h2 (i + m) z (by omega) hm
    simp; omega
  rw [e1, e2]
  simp; omega

def Sorted (zs : List Int) : Prop := ∀ (a b : Nat) (y z : Int), a < b → zs[a]? = some y → zs[b]? = some z → y < z

def BsPost (zs : List Int) (x : Int) (w : World) (e : Ending) (w' : World) : Prop := ∃ t : Bool, e = .returned (.tuple #[.int .i64 (below zs x), .bool t]) ∧ w = w'

theorem ret_ib {a b : Int} {t : Bool} (h : a = b) : Ending.returned (.tuple #[.int .i64 a, .bool t]) = .returned (.tuple #[.int .i64 b, .bool t]) := by rw [h]

set_option maxRecDepth 100000 in
set_option maxHeartbeats 3200000 in
theorem slices_BinarySearch (v : Value) (zs : List Int) (x : Int) (w : World) (hR : RI w v zs) (hl : zs.length ≤ 1000000000000000000) (hs : Sorted zs) :
    Calls Try.prog 100 #[v, .int .i64 x] w (BsPost zs x w) := by
  obtain ⟨A, c, rfl, hc⟩ := hR.form
  have Hs := Lib.hid hs
  clear hs
  go_enter Try.func100, Try.ntmps100
  go_wp2
  go_loop [7, 8] (fun s7 s8 => ∃ i j : Nat, s7 = .int .i64 i ∧ s8 = .int .i64 j ∧ Lows zs x i j) (fun s7 s8 => (intOf s8 - intOf s7).toNat)
  case atStart => exact ⟨0, zs.length, rfl, rfl, by omega, by omega, fun m z hm => by omega, fun m z hm hz => by rw [List.getElem?_eq_none hm] at hz; cases hz⟩
  case round =>
    obtain ⟨i, j, rfl, rfl, hL⟩ := hrel
    have hij := hL.1
    have hjn := hL.2.1
    have HL := Lib.hid hL
    clear hL
    by_cases hlt : i < j
    · obtain ⟨h, hh⟩ : ∃ h : Nat, h = (i + j) / 2 := ⟨_, rfl⟩
      obtain ⟨b, o, c', y, e, hb, hy, hcell⟩ := hR.at (show h < zs.length by omega)
      cases e
      have hh1 : (i : Int) ≤ ((i : Int) + j) / 2 := by omega
      have hh2 : ((i : Int) + j) / 2 < j := by omega
      have hh3 : ((i : Int) + j) / 2 = (h : Int) := by omega
      have Hh := Lib.hid (show i ≤ h ∧ h < j by omega)
      have Hy := Lib.hid hy
      clear hy hh
      cases hp : decide (y < x)
      all_goals
        go_wp2_with (go_at_call 113; refine (cmp_Less _ _ _).mono ?_; rintro e w' ⟨rfl, rfl⟩)
        go_round
      case rel =>
        obtain ⟨q1, q2, q3, q4⟩ := HL.out
        simp only [decide_eq_false_iff_not] at hp
        refine ⟨i, h, rfl, rfl, Hh.out.1, by have := Hh.out.2; omega, q3, fun m z hm hz => ?_⟩
        by_cases e : m = h
        · subst e; have := Hy.out; rw [this] at hz; cases hz; omega
        · have := Hs.out h m y z (by omega) Hy.out hz; omega
      case measure => simp [intOf]; have := Hh.out; omega
      case rel =>
        obtain ⟨q1, q2, q3, q4⟩ := HL.out
        simp only [decide_eq_true_eq] at hp
        refine ⟨h + 1, j, by go_num, rfl, by have := Hh.out.2; omega, q2, fun m z hm hz => ?_, q4⟩
        by_cases e : m = h
        · subst e; have := Hy.out; rw [this] at hz; cases hz; omega
        · have := Hs.out m h z y (by omega) hz Hy.out; omega
      case measure => simp [intOf]; have := Hh.out; omega
    · obtain rfl : i = j := by omega
      have HV := Lib.hid (below_eq HL.out)
      by_cases hlt2 : i < zs.length
      · obtain ⟨b, o, c', y, e, hb, hy, hcell⟩ := hR.at hlt2
        cases e
        cases hp : (y == x)
        all_goals
          go_wp2_with (go_at_call 114; refine (slices_isNaN _ _).mono ?_; rintro e w' ⟨rfl, rfl⟩)
          go_ret2
          exact ⟨_, ret_ib (congrArg Nat.cast HV.out.symm), rfl⟩
      · go_wp2
        go_ret2
        exact ⟨_, ret_ib (congrArg Nat.cast HV.out.symm), rfl⟩

end Go.Proofs.Ytliddinpfgpnfaa
