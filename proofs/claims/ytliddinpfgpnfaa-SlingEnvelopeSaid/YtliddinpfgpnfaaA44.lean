/- Contracts: floor, rest and less of the laws: two fractions held against each other. -/
import Derived.Test.YtliddinpfgpnfaaL14
import Derived.Test.YtliddinpfgpnfaaA37
namespace Go.Proofs.Ytliddinpfgpnfaa
open Go Go.RowKit Go.Sort
set_option linter.unusedSimpArgs false
set_option linter.unusedVariables false

set_option maxHeartbeats 1600000 in
theorem law_floor (a b : Int) (w : World) (ha : (a.natAbs : Int) ≤ 1000000000000000000) (hb : 0 < b) (hb' : b ≤ 1000000000000000000) :
    Calls Try.prog 74 #[.agg #[.int .i64 a, .int .i64 b]] w (AllBelow (.int .i64 (a / b)) w) := by
  obtain ⟨f1, f2⟩ := floor_t (a := a) hb
  have t1 := tdiv_abs hb ha
  have e0 : (b == 0) = false := by simp; omega
  have e1 : IntKind.i64.wrap (a.tdiv b) = a.tdiv b := IntWalk.i64_in _ (by omega)
  by_cases h : a.tmod b < 0
  · have F := Lib.hid (f1 h)
    have d1 : decide (a.tmod b < 0) = true := by simpa using h
    have e2 : IntKind.i64.wrap (a.tdiv b - 1) = a.tdiv b - 1 := IntWalk.i64_in _ (by omega)
    clear f1 f2 h
    go_enter Try.func74, Try.ntmps74
    go_wp2
    go_ret
    exact ⟨ret_int (by rw [F.out]), (Below.refl _ _).alloc (Nat.le_refl _) _⟩
  · have F := Lib.hid (f2 h)
    have d1 : decide (a.tmod b < 0) = false := by simpa using h
    clear f1 f2 h
    go_enter Try.func74, Try.ntmps74
    go_wp2
    go_ret
    exact ⟨ret_int (by rw [F.out]), (Below.refl _ _).alloc (Nat.le_refl _) _⟩

set_option maxRecDepth 100000 in
set_option maxHeartbeats 1600000 in
theorem law_rest (a b c d : Int) (w : World) (ha : 0 ≤ a) (hab : a < b) (hc : 0 ≤ c) (hcd : c < d) (hb : b ≤ 1000000000000000000) (hd : d ≤ 1000000000000000000) :
    Calls Try.prog 75 #[.int .i64 a, .int .i64 b, .int .i64 c, .int .i64 d] w (AllBelow (.bool (decide (a * d < c * b))) w) := by
  obtain ⟨R, hR⟩ : ∃ R, R = decide (a * d < c * b) := ⟨_, rfl⟩
  rw [← hR]
  have HR := Lib.hid hR
  clear hR
  go_enter Try.func75, Try.ntmps75
  go_wp2_with fail
  go_loopw [0, 1, 2, 3] (fun s0 s1 s2 s3 wr => ∃ x y u v : Int, s0 = .int .i64 x ∧ s1 = .int .i64 y ∧ s2 = .int .i64 u ∧ s3 = .int .i64 v ∧ 0 ≤ x ∧ x < y ∧ 0 ≤ u ∧ u < v ∧ y ≤ 1000000000000000000 ∧ v ≤ 1000000000000000000 ∧ R = decide (x * v < u * y) ∧ Below w.heap.size w wr) (fun s0 _ s2 _ _ => (intOf s0 + intOf s2).toNat)
  case atStart => exact ⟨a, b, c, d, rfl, rfl, rfl, rfl, ha, hab, hc, hcd, hb, hd, HR.out, Below.refl _ _⟩
  case round =>
    obtain ⟨x, y, u, v, rfl, rfl, rfl, rfl, hx, hxy, hu, huv, hy, hv, hRR, hbl⟩ := hrel
    have HRR := Lib.hid hRR
    clear hRR
    by_cases hu0 : u = 0
    · subst hu0
      have HF := Lib.hid (show R = false by rw [HRR.out]; have : 0 ≤ x * v := Int.mul_nonneg hx (by omega); simp; omega)
      go_wp2
      go_ret
      exact ⟨ret_bool (by rw [HF.out]), hbl⟩
    · have c1 : (u == 0) = false := by simpa using hu0
      have c2 : 0 < u := by omega
      by_cases hx0 : x = 0
      · subst hx0
        have HF := Lib.hid (show R = true by rw [HRR.out]; have : 0 < u * y := Int.mul_pos c2 (by omega); simp; omega)
        clear hu0
        go_wp2
        go_ret
        exact ⟨ret_bool (by rw [HF.out]), hbl⟩
      · have c3 : (x == 0) = false := by simpa using hx0
        have c4 : 0 < x := by omega
        have g1 : 0 ≤ v := by omega
        have g2 : 0 ≤ y := by omega
        have m1 := Int.emod_nonneg v (show u ≠ 0 by omega)
        have m2 := Int.emod_lt_of_pos v c2
        have m3 := Int.emod_nonneg y (show x ≠ 0 by omega)
        have m4 := Int.emod_lt_of_pos y c4
        clear hu0 hx0
        by_cases hpq : v / u = y / x
        · have HS := Lib.hid (HRR.out.trans (turn_step c4 c2 hpq))
          have e0 : (v / u != y / x) = false := by simpa using hpq
          clear hpq
          go_wp2_with fail
          refine rg_all (by kernel_rfl) (by kernel_rfl) ?_
          repeat (go_big_quiet_step (fail))
          refine wpQuiet_nil ?_
          intro w1 hw1
          have E1 := hbl.trans ((rg_below hw1).mono hbl.size)
          clear hw1
          go_wp2_with fail
          refine rg_all (by kernel_rfl) (by kernel_rfl) ?_
          repeat (go_big_quiet_step (fail))
          refine wpQuiet_nil ?_
          intro w2 hw2
          have E2 := E1.trans ((rg_below hw2).mono E1.size)
          clear hw2
          go_wp2_with fail
          go_roundw
          case rel => exact ⟨v % u, u, y % x, x, rfl, rfl, rfl, rfl, m1, m2, m3, m4, by omega, by omega, HS.out, E2⟩
          case measure => simp [intOf]; omega
        · have HS := Lib.hid (HRR.out.trans (turn_floor c4 c2 hpq))
          have e0 : (v / u != y / x) = true := by simpa using hpq
          clear hpq
          go_wp2_with fail
          refine rg_all (by kernel_rfl) (by kernel_rfl) ?_
          repeat (go_big_quiet_step (fail))
          refine wpQuiet_nil ?_
          intro w1 hw1
          have E1 := hbl.trans ((rg_below hw1).mono hbl.size)
          clear hw1
          go_wp2
          go_ret
          exact ⟨ret_bool (by rw [HS.out]), E1⟩

theorem floor_is {a b q : Int} (w : World) (ha : (a.natAbs : Int) ≤ 1000000000000000000) (hb : 0 < b) (hb' : b ≤ 1000000000000000000) (hq : a / b = q) :
    Calls Try.prog 74 #[.agg #[.int .i64 a, .int .i64 b]] w (AllBelow (.int .i64 q) w) := by subst hq; exact law_floor a b w ha hb hb'

set_option maxRecDepth 100000 in
set_option maxHeartbeats 1600000 in
theorem law_less (a b c d : Int) (w : World) (ha : (a.natAbs : Int) ≤ 100000000000000000) (hb : 0 < b) (hb' : b ≤ 100000000000000000) (hc : (c.natAbs : Int) ≤ 100000000000000000) (hd : 0 < d) (hd' : d ≤ 100000000000000000) :
    Calls Try.prog 34 #[.agg #[.int .i64 a, .int .i64 b], .agg #[.int .i64 c, .int .i64 d]] w (AllBelow (.bool (decide (a * d < c * b))) w) := by
  have B2 : Below w.heap.size w ((w.alloc (.cells #[.int .i64 a, .int .i64 b] 24)).alloc (.cells #[.int .i64 c, .int .i64 d] 24)) := ((Below.refl _ _).alloc (Nat.le_refl _) _).alloc (by simp) _
  have H0 := Int.mul_ediv_add_emod a b
  have H1 := Int.emod_nonneg a (show b ≠ 0 by omega)
  have H2 := Int.emod_lt_of_pos a hb
  have H3 := Int.mul_ediv_add_emod c d
  have H4 := Int.emod_nonneg c (show d ≠ 0 by omega)
  have H5 := Int.emod_lt_of_pos c hd
  have X := fun (h : a / b ≠ c / d) => cross_floor hb hd h
  have Y := fun (h : a / b = c / d) => cross_rest hb hd h
  have F0 := fun W => floor_is (a := a) (b := b) (q := a / b) W (by omega) hb (by omega) rfl
  have F1 := fun W => floor_is (a := c) (b := d) (q := c / d) W (by omega) hd (by omega) rfl
  have R0 := fun W => law_rest (a % b) b (c % d) d W H1 H2 H4 H5 (by omega) (by omega)
  generalize a / b = p at *
  generalize c / d = q at *
  generalize a % b = r at *
  generalize c % d = s at *
  have m0 : IntKind.i64.wrap (p * b) = p * b := IntWalk.i64_in _ (by rw [Int.mul_comm]; omega)
  have m1 : IntKind.i64.wrap (a - p * b) = r := by rw [IntWalk.i64_in _ (by rw [Int.mul_comm]; omega)]; rw [Int.mul_comm]; omega
  have m2 : IntKind.i64.wrap (q * d) = q * d := IntWalk.i64_in _ (by rw [Int.mul_comm]; omega)
  have m3 : IntKind.i64.wrap (c - q * d) = s := by rw [IntWalk.i64_in _ (by rw [Int.mul_comm]; omega)]; rw [Int.mul_comm]; omega
  clear H0 H1 H2 H3 H4 H5
  by_cases hpq : p = q
  · have HY := Lib.hid (Y hpq)
    have e0 : (p != q) = false := by simpa using hpq
    clear X Y hpq
    generalize decide (a * d < c * b) = R at *
    go_enter Try.func34, Try.ntmps34
    go_wp2_with fail
    refine rg_all (by kernel_rfl) (by kernel_rfl) ?_
    repeat (go_big_quiet_step ((first | (go_at_call 74; with_reducible exact Calls.regrown_of (F0 _)) | (go_at_call 74; with_reducible exact Calls.regrown_of (F1 _)))))
    refine wpQuiet_nil ?_
    intro w1 hw1
    have E1 := B2.trans ((rg_below hw1).mono B2.size)
    obtain ⟨hc1, hf1, hs1⟩ := bcell (rg_below hw1)
    have u1 : w.heap.size < w1.heap.size := (by simp at hs1; omega)
    have u2 : w.heap.size + 1 < w1.heap.size := (by simp at hs1; omega)
    clear hw1
    go_wp2_with (go_at_call 75; (with_reducible refine (R0 _).mono ?_); rintro e w2 ⟨rfl, hb2⟩; have E2 := E1.trans (hb2.mono E1.size))
    go_ret
    exact ⟨ret_bool (by rw [HY.out]), E2⟩
  · have HX := Lib.hid (X hpq)
    have e0 : (p != q) = true := by simpa using hpq
    clear X Y hpq
    generalize decide (a * d < c * b) = R at *
    go_enter Try.func34, Try.ntmps34
    go_wp2_with fail
    refine rg_all (by kernel_rfl) (by kernel_rfl) ?_
    repeat (go_big_quiet_step ((first | (go_at_call 74; with_reducible exact Calls.regrown_of (F0 _)) | (go_at_call 74; with_reducible exact Calls.regrown_of (F1 _)))))
    refine wpQuiet_nil ?_
    intro w1 hw1
    have E1 := B2.trans ((rg_below hw1).mono B2.size)
    clear hw1
    go_wp2
    go_ret
    exact ⟨ret_bool (by rw [HX.out]), E1⟩

end Go.Proofs.Ytliddinpfgpnfaa
