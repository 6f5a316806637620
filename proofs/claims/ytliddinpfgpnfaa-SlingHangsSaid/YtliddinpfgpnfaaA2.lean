/- Contracts of small functions of the sling program: fractions. -/
import Derived.Test.YtliddinpfgpnfaaB
namespace Go.Proofs.Ytliddinpfgpnfaa
open Go Go.RowKit Go.Sort
set_option linter.unusedSimpArgs false
set_option linter.unusedVariables false

def lowV (a b : Int) : Value := .agg #[.int .i64 (a / (Int.gcd a b : Int)), .int .i64 (b / (Int.gcd a b : Int))]

theorem gcd_step (x y : Int) : Int.gcd y (x % y) = Int.gcd x y := by
  rw [Int.gcd_comm x y]
  rw [Int.emod_def, Int.gcd_sub_mul_left_right]
theorem dvd_exact (a g : Int) (h : g ∣ a) : Int.tdiv a g = a / g := Int.tdiv_eq_ediv_of_dvd h

set_option maxRecDepth 100000 in
set_option maxHeartbeats 1600000 in
theorem sling_lowest (a b : Int) (w : World) (ha : -1000000000000000000 ≤ a) (ha' : a ≤ 1000000000000000000) (hb : 0 < b) (hb' : b ≤ 1000000000000000000) :
    Calls Try.prog 69 #[.int .i64 a, .int .i64 b] w (AllBelow (lowV a b) w) := by
  go_enter Try.func69, Try.ntmps69
  go_wp2
  all_goals
    go_loopw [5, 6] (fun s5 s6 wr => ∃ x y : Int, s5 = .int .i64 x ∧ s6 = .int .i64 y ∧ 0 ≤ x ∧ 0 ≤ y ∧ x ≤ 1000000000000000000 ∧ y ≤ 1000000000000000000 ∧ (Int.gcd x y = Int.gcd a b) ∧ Below (w.heap.size + 1) (w.alloc (Obj.cells #[Value.int IntKind.i64 0, Value.int IntKind.i64 0] 24)) wr) (fun _ s6 _ => (intOf s6).toNat)
    case atStart => exact ⟨_, _, rfl, rfl, by omega, by omega, by omega, by omega, by simp [Int.gcd], by simpa using Below.refl _ _⟩
    case round =>
      obtain ⟨x, y, rfl, rfl, hx, hy, hx', hy', hg, hbl⟩ := hrel
      have Hg := Lib.hid hg
      clear hg
      by_cases hc : 0 < y
      · have hc2 : (y == 0) = false := by simp; omega
        have hm := Int.emod_nonneg x (show y ≠ 0 by omega)
        have hm2 := Int.emod_lt_of_pos x hc
        have hgs := Lib.hid (gcd_step x y)
        go_wp2
        go_quiet (fail)
        go_wp2
        go_roundw
        case rel => exact ⟨y, x % y, rfl, rfl, by omega, by omega, by omega, by omega, hgs.out.trans Hg.out, below_drewN hbl _⟩
        case measure => simp [intOf]; omega
      · obtain rfl : y = 0 := by omega
        have hx1 : x = (Int.gcd a b : Int) := by have := Hg.out; rw [Int.gcd_zero_right] at this; omega
        have hx2 : 0 < x := by have := Int.gcd_pos_of_ne_zero_right a (show b ≠ 0 by omega); omega
        have hx3 : (x == 0) = false := by simp; omega
        have hd1 := Lib.hid (dvd_exact a x (by rw [hx1]; exact Int.gcd_dvd_left ..))
        have hd2 := Lib.hid (dvd_exact b x (by rw [hx1]; exact Int.gcd_dvd_right ..))
        have Hx1 := Lib.hid hx1
        clear hx1
        go_wp2
        refine rg_tail 7 (by kernel_rfl) (by kernel_rfl) ?_
        simp only [List.take_succ_cons, List.take_zero, List.drop_succ_cons, List.drop_zero]
        repeat (go_big_quiet_step (fail))
        refine wpQuiet_nil ?_
        intro w1 hw1
        have hb1 := rg_below hw1
        clear hw1
        have hb2 := hbl.trans (hb1.mono (B' := w.heap.size + 1) (by have := hbl.size; simp at this; omega))
        obtain ⟨hc1, hf1, hs1⟩ := bcell (W := w.alloc (Obj.cells #[Value.int IntKind.i64 0, Value.int IntKind.i64 0] 24)) (by simpa using hb2)
        clear hbl hb1
        go_wp2
        have hsz : w.heap.size < w1.heap.size := by simp at hs1; omega
        refine bodyPost_ret (v := .agg #[.int .i64 (a / x), .int .i64 (b / x)]) (by simp [results, Try.results69, go_sem, hc1, hd1.out, hd2.out]) rfl ⟨by rw [lowV, ← Hx1.out], ?_⟩
        exact (((Below.refl _ _).alloc (Nat.le_refl _) _).trans (hb2.mono (Nat.le_succ _))).setCell (Nat.le_refl _) _ |>.setCell (Nat.le_refl _) _
end Go.Proofs.Ytliddinpfgpnfaa
