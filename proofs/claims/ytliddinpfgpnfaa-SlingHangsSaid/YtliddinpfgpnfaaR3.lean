/- Contracts of the specification: points on a table, the part of an axis, fractions rounded. -/
import Derived.Test.YtliddinpfgpnfaaR2
import Derived.Test.YtliddinpfgpnfaaA16
namespace Go.Proofs.Ytliddinpfgpnfaa
open Go Go.RowKit Go.Sort
set_option linter.unusedSimpArgs false
set_option linter.unusedVariables false

theorem box222 {w wr : World} {v0 v1 v2 : Value} {a b c d : Int} (hb : Below (w.heap.size + 1 + 1 + 1) (((w.alloc (.cells #[v0, v1, v2] 40)).alloc (.cells #[.int .i64 a, .int .i64 b] 27)).alloc (.cells #[.int .i64 c, .int .i64 d] 27)) wr) :
    (wr.cell? ⟨w.heap.size, 0, none⟩ = some v0 ∧ wr.cell? ⟨w.heap.size, 1, none⟩ = some v1 ∧ wr.cell? ⟨w.heap.size, 2, none⟩ = some v2) ∧
    (wr.cell? ⟨w.heap.size + 1, 0, none⟩ = some (.int .i64 a) ∧ wr.cell? ⟨w.heap.size + 1, 1, none⟩ = some (.int .i64 b)) ∧ (wr.cell? ⟨w.heap.size + 1 + 1, 0, none⟩ = some (.int .i64 c) ∧ wr.cell? ⟨w.heap.size + 1 + 1, 1, none⟩ = some (.int .i64 d)) ∧ w.heap.size + 1 + 1 < wr.heap.size := by
  have h0 : wr.heap[w.heap.size]? = some (.cells #[v0, v1, v2] 40 (0, 0)) := by rw [hb.block _ (by omega)]; exact heap_alloc_old (heap_alloc_old (heap_alloc_new _ _))
  have h1 : wr.heap[w.heap.size + 1]? = some (.cells #[.int .i64 a, .int .i64 b] 27 (0, 0)) := by
    rw [hb.block _ (by omega)]
    refine heap_alloc_old ?_
    rw [show w.heap.size + 1 = (w.alloc (.cells #[v0, v1, v2] 40)).heap.size by simp]
    exact heap_alloc_new _ _
  have h2 : wr.heap[w.heap.size + 1 + 1]? = some (.cells #[.int .i64 c, .int .i64 d] 27 (0, 0)) := by
    rw [hb.block _ (by omega)]
    rw [show w.heap.size + 1 + 1 = ((w.alloc (.cells #[v0, v1, v2] 40)).alloc (.cells #[.int .i64 a, .int .i64 b] 27)).heap.size by simp]
    exact heap_alloc_new _ _
  refine ⟨⟨by rw [(blk_cells h0 0).1]; rfl, by rw [(blk_cells h0 1).1]; rfl, by rw [(blk_cells h0 2).1]; rfl⟩, ⟨by rw [(blk_cells h1 0).1]; rfl, by rw [(blk_cells h1 1).1]; rfl⟩, ⟨by rw [(blk_cells h2 0).1]; rfl, by rw [(blk_cells h2 1).1]; rfl⟩, ?_⟩
  have := hb.size
  simp at this
  omega

set_option maxRecDepth 100000 in
set_option maxHeartbeats 6400000 in
theorem ref_CheckBound (vX vY vV : Value) (X Y : List Int) (V : List (List Int)) (xl xh yl yh : Int) (w : World) (hR : RT w vX vY vV X Y V) :
    Calls Try.prog 97 #[.agg #[vX, vY, vV], .agg #[.int .i64 xl, .int .i64 xh], .agg #[.int .i64 yl, .int .i64 yh]] w (AllBelow (.int .i64 (pointsE X Y V xl xh yl yh)) w) := by
  have B1 : Below w.heap.size w (((w.alloc (.cells #[vX, vY, vV] 40)).alloc (.cells #[.int .i64 xl, .int .i64 xh] 27)).alloc (.cells #[.int .i64 yl, .int .i64 yh] 27)) := (((Below.refl _ _).alloc (Nat.le_refl _) _).alloc (by simp) _).alloc (by simp; omega) _
  have z1 : (((w.alloc (.cells #[vX, vY, vV] 40)).alloc (.cells #[.int .i64 xl, .int .i64 xh] 27)).alloc (.cells #[.int .i64 yl, .int .i64 yh] 27)).heap.size = w.heap.size + 1 + 1 + 1 := by simp
  by_cases h1 : tableE X Y V = 0
  · have hT := tableE_zero h1
    have hlX := (axB_len hT.1).1
    have hlY := (axB_len hT.2.1).1
    clear hT
    have H1 := Lib.hid h1
    clear h1
    by_cases h2 : twoE xl xh yl yh = 0
    · have H2 := Lib.hid h2
      clear h2
      cases h3 : liesB X xl xh
      · go_enter Try.func97, Try.ntmps97
        go_wp2_with fail
        refine (ref_CheckTable vX vY vV X Y V _ (hR.below B1)).mono ?_
        rintro e w1 ⟨rfl, hb⟩
        rw [H1.out]
        have E1 := B1.trans (hb.mono (by rw [z1]; omega))
        rw [z1] at hb
        obtain ⟨⟨q0, q1, q2⟩, ⟨q3, q4⟩, ⟨q5, q6⟩, q7⟩ := box222 hb
        go_wp2_with fail
        refine (ref_two xl xh yl yh _).mono ?_
        rintro e w2 ⟨rfl, hb2⟩
        rw [H2.out]
        have E2 := E1.trans (hb2.mono E1.size)
        have G2 := hb.trans (hb2.mono q7)
        clear q0 q1 q2 q3 q4 q5 q6 q7 hb hb2
        obtain ⟨⟨q0, q1, q2⟩, ⟨q3, q4⟩, ⟨q5, q6⟩, q7⟩ := box222 G2
        go_wp2_with fail
        refine (ref_Between vX X xl xh _ (hR.x.below E2) (by omega) hR.lx).mono ?_
        rintro e w3 ⟨rfl, hb3⟩
        rw [h3]
        have E3 := E2.trans (hb3.mono E2.size)
        go_wp2_with fail
        go_ret
        exact ⟨ret_int (by rw [pointsE, if_pos H1.out, spannedE_two, if_pos H2.out, h3]; rfl), E3⟩
      · cases h4 : liesB Y yl yh
        all_goals
          go_enter Try.func97, Try.ntmps97
          go_wp2_with fail
          refine (ref_CheckTable vX vY vV X Y V _ (hR.below B1)).mono ?_
          rintro e w1 ⟨rfl, hb⟩
          rw [H1.out]
          have E1 := B1.trans (hb.mono (by rw [z1]; omega))
          rw [z1] at hb
          obtain ⟨⟨q0, q1, q2⟩, ⟨q3, q4⟩, ⟨q5, q6⟩, q7⟩ := box222 hb
          go_wp2_with fail
          refine (ref_two xl xh yl yh _).mono ?_
          rintro e w2 ⟨rfl, hb2⟩
          rw [H2.out]
          have E2 := E1.trans (hb2.mono E1.size)
          have G2 := hb.trans (hb2.mono q7)
          clear q0 q1 q2 q3 q4 q5 q6 q7 hb hb2
          obtain ⟨⟨q0, q1, q2⟩, ⟨q3, q4⟩, ⟨q5, q6⟩, q7⟩ := box222 G2
          go_wp2_with fail
          refine (ref_Between vX X xl xh _ (hR.x.below E2) (by omega) hR.lx).mono ?_
          rintro e w3 ⟨rfl, hb3⟩
          rw [h3]
          have E3 := E2.trans (hb3.mono E2.size)
          have G3 := G2.trans (hb3.mono q7)
          clear q0 q1 q2 q3 q4 q5 q6 q7 hb3 G2
          obtain ⟨⟨q0, q1, q2⟩, ⟨q3, q4⟩, ⟨q5, q6⟩, q7⟩ := box222 G3
          go_wp2_with fail
          refine (ref_Between vY Y yl yh _ (hR.y.below E3) (by omega) hR.ly).mono ?_
          rintro e w4 ⟨rfl, hb4⟩
          rw [h4]
          have E4 := E3.trans (hb4.mono E3.size)
          go_wp2_with fail
          go_ret
          exact ⟨ret_int (by rw [pointsE, if_pos H1.out, spannedE_two, if_pos H2.out, h3, h4]; rfl), E4⟩
    · have h2b : (twoE xl xh yl yh != 0) = true := by simpa using h2
      have e2 : twoE xl xh yl yh = 10 := by unfold twoE at *; split <;> simp_all
      have H2 := Lib.hid h2
      have He2 := Lib.hid e2
      clear h2 e2
      go_enter Try.func97, Try.ntmps97
      go_wp2_with fail
      refine (ref_CheckTable vX vY vV X Y V _ (hR.below B1)).mono ?_
      rintro e w1 ⟨rfl, hb⟩
      rw [H1.out]
      have E1 := B1.trans (hb.mono (by rw [z1]; omega))
      rw [z1] at hb
      obtain ⟨⟨q0, q1, q2⟩, ⟨q3, q4⟩, ⟨q5, q6⟩, q7⟩ := box222 hb
      go_wp2_with fail
      refine (ref_two xl xh yl yh _).mono ?_
      rintro e w2 ⟨rfl, hb2⟩
      have E2 := E1.trans (hb2.mono E1.size)
      go_wp2_with fail
      go_ret
      exact ⟨ret_int (by rw [pointsE, if_pos H1.out, spannedE_two, if_neg H2.out, He2.out]), E2⟩
  · have h1b : (tableE X Y V != 0) = true := by simpa using h1
    have e1 : tableE X Y V = 11 := (tableE_or X Y V).resolve_left h1
    have H1 := Lib.hid h1
    have He1 := Lib.hid e1
    clear h1 e1
    go_enter Try.func97, Try.ntmps97
    go_wp2_with fail
    refine (ref_CheckTable vX vY vV X Y V _ (hR.below B1)).mono ?_
    rintro e w1 ⟨rfl, hb⟩
    have E1 := B1.trans (hb.mono (by rw [z1]; omega))
    go_wp2_with fail
    go_ret
    exact ⟨ret_int (by rw [pointsE, if_neg H1.out, He1.out]), E1⟩

/-- How many of the inner knots are at most a number. -/
def upto (zs : List Int) (x : Int) : Nat := (zs.filter fun z => decide (z ≤ x)).length
/-- The part of an axis where a number is, as the specification counts. -/
def cellR (X : List Int) (x : Int) : Nat := upto (inner X) x

theorem upto_eq {zs : List Int} (hs : Sorted zs) {x : Int} {i : Nat} (hi : i ≤ zs.length) (h1 : ∀ m z, m < i → zs[m]? = some z → z ≤ x) (h2 : ∀ z, zs[i]? = some z → x < z) : upto zs x = i := by
  have e : zs = zs.take i ++ zs.drop i := (List.take_append_drop i zs).symm
  have f1 : (zs.take i).filter (fun z => decide (z ≤ x)) = zs.take i := by
    rw [List.filter_eq_self]
    intro z hz
    obtain ⟨m, hm, rfl⟩ := List.getElem_of_mem hz
    simp at hm
    simpa using h1 m _ (by omega) (by simp [show m < zs.length by omega])
  have f2 : (zs.drop i).filter (fun z => decide (z ≤ x)) = [] := by
    rw [List.filter_eq_nil_iff]
    intro z hz
    obtain ⟨m, hm, rfl⟩ := List.getElem_of_mem hz
    simp at hm
    have h3 := h2 zs[i] (List.getElem?_eq_getElem (by omega))
    simp only [List.getElem_drop, decide_eq_true_eq]
    by_cases e0 : m = 0
    · subst e0; simpa using h3
    · have := hs i (i + m) zs[i] zs[i + m] (by omega) (List.getElem?_eq_getElem (by omega)) (List.getElem?_eq_getElem (by omega)); omega
  unfold upto
  rw [e, List.filter_append, f1, f2]
  simp; omega

set_option maxRecDepth 100000 in
set_option maxHeartbeats 3200000 in
theorem ref_part (v : Value) (X : List Int) (x : Int) (w : World) (hR : RI w v X) (hA : axB X = true) :
    Calls Try.prog 117 #[v, .int .i64 x] w fun e w' => e = .returned (.int .i64 (cellR X x)) ∧ w = w' := by
  have hl := axB_len hA
  have hl2 := hl.1
  have hl3 := hl.2
  clear hl
  obtain ⟨A, c, rfl, hc⟩ := hR.form
  have hS := inner_sorted hA
  go_enter Try.func117, Try.ntmps117
  go_wp2_with fail
  go_loop [5] (fun s5 => ∃ i : Nat, s5 = .int .i64 i ∧ i + 2 ≤ X.length ∧ ∀ m z, m < i → (inner X)[m]? = some z → z ≤ x) (fun s5 => X.length - (intOf s5).toNat)
  case atStart => exact ⟨0, rfl, by omega, fun m z hm => by omega⟩
  case round =>
    obtain ⟨i, rfl, hi, hlow⟩ := hrel
    have HL := Lib.hid hlow
    clear hlow
    by_cases hlt : i + 2 < X.length
    · obtain ⟨b, o, c', z, e, hb, hz, hcell⟩ := hR.at (show i + 1 < X.length by omega)
      cases e
      have Hz := Lib.hid hz
      have hk : (inner X)[i]? = some z := by rw [inner_get X i (by omega), ← kn_some (by omega), hz]
      have Hk := Lib.hid hk
      clear hz hk
      by_cases hle : z ≤ x
      · go_wp2_with fail
        go_round
        case rel =>
          refine ⟨i + 1, by go_num, by omega, fun m y hm hy => ?_⟩
          by_cases e0 : m = i
          · subst e0; rw [Hk.out] at hy; cases hy; exact hle
          · exact HL.out m y (by omega) hy
        case measure => simp [intOf]; omega
      · go_wp2_with fail
        go_ret
        have ee : cellR X x = i := upto_eq hS (by rw [inner_len]; omega) HL.out (fun y hy => by rw [Hk.out] at hy; cases hy; omega)
        exact ⟨ret_int (by rw [ee]), rfl⟩
    · go_wp2_with fail
      go_ret
      have ee : cellR X x = i := upto_eq hS (by rw [inner_len]; omega) HL.out (fun y hy => by have := (List.getElem?_eq_some_iff.1 hy).1; rw [inner_len] at this; omega)
      exact ⟨ret_int (by rw [ee]), rfl⟩

theorem neg_floor (a b : Int) (ha : a < 0) (hb : 0 < b) : -((-a + b - 1) / b) = a / b := by
  have h1 := Int.mul_ediv_add_emod a b
  have h2 := Int.emod_nonneg a (show b ≠ 0 by omega)
  have h3 := Int.emod_lt_of_pos a hb
  generalize a / b = q at *
  generalize a % b = r at *
  have : (-a + b - 1) / b = -q := by
    rw [Int.ediv_eq_iff_of_pos hb]
    constructor
    · rw [Int.neg_mul, Int.mul_comm]; omega
    · have := Int.neg_mul q b; rw [Int.mul_comm q b] at this; omega
  omega

set_option maxHeartbeats 1600000 in
theorem ref_floor (a b : Int) (w : World) (ha : -1000000000000000000 ≤ a) (ha' : a ≤ 1000000000000000000) (hb : 0 < b) (hb' : b ≤ 1000000000000000000) :
    Calls Try.prog 111 #[.int .i64 a, .int .i64 b] w fun e w' => e = .returned (.int .i64 (a / b)) ∧ w = w' := by
  have hb0 : (b == 0) = false := by simp; omega
  by_cases h : 0 ≤ a
  · go_enter Try.func111, Try.ntmps111
    go_wp2
    go_ret
    simp
  · have HN := Lib.hid (neg_floor a b (by omega) hb)
    have h1 : 0 ≤ -a + b - 1 := by omega
    have h2 := Int.ediv_nonneg h1 (show 0 ≤ b by omega)
    have h3 := Int.ediv_le_self b h1
    go_enter Try.func111, Try.ntmps111
    go_wp2
    go_ret
    exact ⟨ret_int HN.out, rfl⟩

set_option maxHeartbeats 1600000 in
theorem ref_ceil (a b : Int) (w : World) (ha : -1000000000000000000 ≤ a) (ha' : a ≤ 1000000000000000000) (hb : 0 < b) (hb' : b ≤ 1000000000000000000) :
    Calls Try.prog 112 #[.int .i64 a, .int .i64 b] w fun e w' => e = .returned (.int .i64 (upV a b)) ∧ w = w' := by
  have h2 : -1000000000000000000 ≤ -a / b := by
    rw [Int.le_ediv_iff_mul_le hb]
    have := Int.mul_le_mul_of_nonneg_left (show (1 : Int) ≤ b by omega) (show (0 : Int) ≤ 1000000000000000000 by omega)
    omega
  have h3 : -a / b ≤ 1000000000000000000 := by
    have e1 := Int.ediv_le_ediv hb (show -a ≤ 1000000000000000000 by omega)
    have e2 := Int.ediv_le_self b (show (0 : Int) ≤ 1000000000000000000 by omega)
    omega
  go_enter Try.func112, Try.ntmps112
  go_wp2_with fail
  refine (ref_floor (-a) b _ (by omega) (by omega) hb hb').mono ?_
  rintro e w' ⟨rfl, rfl⟩
  go_wp2
  go_ret
  exact ⟨rfl, rfl⟩

end Go.Proofs.Ytliddinpfgpnfaa
