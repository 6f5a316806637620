/- Contracts: small functions of a set of starts and gusts, and of the specification's. -/
import Derived.Test.YtliddinpfgpnfaaA6
import Derived.Test.YtliddinpfgpnfaaA19
import Derived.Test.YtliddinpfgpnfaaR1
import Derived.Test.YtliddinpfgpnfaaL11
namespace Go.Proofs.Ytliddinpfgpnfaa
open Go Go.RowKit Go.Sort
set_option linter.unusedSimpArgs false
set_option linter.unusedVariables false

set_option maxHeartbeats 800000 in
theorem sling_end (p lo hi : Int) (high : Bool) (w : World) :
    Calls Try.prog 72 #[.int .i64 p, .agg #[.int .i64 lo, .int .i64 hi], .bool high] w (AllBelow (.int .i64 (endV p lo hi high)) w) := by
  have HV := Lib.hid (show endV p lo hi high = if (high && decide (0 < p)) || (!high && decide (p < 0)) then hi else lo from rfl)
  rcases Int.lt_trichotomy p 0 with h | h | h
  · have e1 : decide (0 < p) = false := by simp; omega
    have e2 : (p != 0) = true := by simp; omega
    have e3 := Lib.hid (show decide (p < 0) = true by simpa using h)
    have E1 := Lib.hid e1
    clear h
    cases high
    all_goals
      go_enter Try.func72, Try.ntmps72
      go_wp2
      go_ret
      exact ⟨ret_int (by rw [HV.out, E1.out, e3.out]; rfl), (Below.refl _ _).alloc (Nat.le_refl _) _⟩
  · subst h
    cases high
    all_goals
      go_enter Try.func72, Try.ntmps72
      go_wp2
      go_ret
      exact ⟨ret_int (by rw [HV.out]; rfl), (Below.refl _ _).alloc (Nat.le_refl _) _⟩
  · have e1 : decide (0 < p) = true := by simpa using h
    have e2 : (p != 0) = true := by simp; omega
    have e3 := Lib.hid (show decide (p < 0) = false by simp; omega)
    have E1 := Lib.hid e1
    clear h
    cases high
    all_goals
      go_enter Try.func72, Try.ntmps72
      go_wp2
      go_ret
      exact ⟨ret_int (by rw [HV.out, E1.out, e3.out]; rfl), (Below.refl _ _).alloc (Nat.le_refl _) _⟩

/-- A set of starts and gusts. -/
abbrev setC (num damp D : Int) (vb : Value) (gl gh : Int) : Obj := .cells #[.int .i64 num, .int .i64 damp, .int .i64 D, vb, .int .i64 gl, .int .i64 gh] 133 (0, 0)

theorem set_cells {w : World} {b : Nat} {num damp D gl gh : Int} {vb : Value} (h : w.heap[b]? = some (setC num damp D vb gl gh)) :
    w.cell? ⟨b, 0, none⟩ = some (.int .i64 num) ∧ w.cell? ⟨b, 1, none⟩ = some (.int .i64 damp) ∧ w.cell? ⟨b, 2, none⟩ = some (.int .i64 D) ∧ w.cell? ⟨b, 3, none⟩ = some vb ∧ w.cell? ⟨b, 4, none⟩ = some (.int .i64 gl) ∧ w.cell? ⟨b, 5, none⟩ = some (.int .i64 gh) := by
  simp [blk_cells h]

def pairV (p : Int × Int) : Value := .agg #[.int .i64 p.1, .int .i64 p.2]

set_option maxHeartbeats 1600000 in
theorem sling_span (b : Nat) (num damp D gl gh l0 h0 l1 h1 : Int) (vb : Value) (i : Nat) (w : World) (hb : w.heap[b]? = some (setC num damp D vb gl gh)) (hR : RP w vb [(l0, h0), (l1, h1)]) :
    Calls Try.prog 73 #[.pointer (some ⟨b, 0, none⟩), .int .i64 i] w (AllBelow (pairV (spanAt (l0, h0) (l1, h1) (gl, gh) i)) w) := by
  obtain ⟨c0, c1, c2, c3, c4, c5⟩ := set_cells hb
  have hlt := lt_of_cell c0
  by_cases h : i < 2
  · obtain ⟨bb, o, c, x, y, rfl, hbb, hx, q0, q1⟩ := hR.at (k := i) h
    have hx' := Lib.hid hx
    have hS := Lib.hid (show spanAt (l0, h0) (l1, h1) (gl, gh) i = (x, y) by
      match i, h with
      | 0, _ => simpa [spanAt] using hx
      | 1, _ => simpa [spanAt] using hx)
    clear hx
    have hlen : ([(l0, h0), (l1, h1)] : List (Int × Int)).length = 2 := rfl
    have i1 : (i : Int) < 2 := by omega
    have i2 : (0 : Int) ≤ (i : Int) := by omega
    go_enter Try.func73, Try.ntmps73
    go_wp2
    refine bodyPost_ret (v := .agg #[.int .i64 x, .int .i64 y]) (by simp [results, Try.results73, go_sem]) rfl ⟨by rw [hS.out]; rfl, ?_⟩
    first
      | exact (Below.refl _ _).alloc (Nat.le_refl _) _
      | exact (((Below.refl _ _).alloc (Nat.le_refl _) _).setCell (Nat.le_refl _) _).setCell (Nat.le_refl _) _
      | skip
  · have hS := Lib.hid (show spanAt (l0, h0) (l1, h1) (gl, gh) i = (gl, gh) by
      simp only [spanAt]
      rw [if_neg (by omega), if_neg (by omega)])
    have i1 : ¬ (i : Int) < 2 := by omega
    go_enter Try.func73, Try.ntmps73
    go_wp2
    refine bodyPost_ret (v := .agg #[.int .i64 gl, .int .i64 gh]) (by simp [results, Try.results73, go_sem]) rfl ⟨by rw [hS.out]; rfl, ?_⟩
    first
      | exact (Below.refl _ _).alloc (Nat.le_refl _) _
      | exact (((Below.refl _ _).alloc (Nat.le_refl _) _).setCell (Nat.le_refl _) _).setCell (Nat.le_refl _) _
      | skip

theorem pow_le (D : Int) (h1 : 1 ≤ D) (h2 : D ≤ 4) (n : Nat) (hn : n ≤ 17) : 1 ≤ D ^ n ∧ D ^ n ≤ 17179869184 := by
  by_cases h : n ≤ 16
  · have := pow_small D h1 h2 n h; omega
  · obtain rfl : n = 16 + 1 := by omega
    have := pow_small D h1 h2 16 (by omega)
    rw [Int.pow_succ]
    refine ⟨?_, ?_⟩
    · have : 0 < D ^ 16 * D := Int.mul_pos (by omega) (by omega); omega
    · have := Int.mul_le_mul this.2 h2 (by omega) (by omega); omega

set_option maxHeartbeats 800000 in
theorem ref_power (D : Int) (n : Nat) (w : World) (h1 : 1 ≤ D) (h2 : D ≤ 4) (hn : n ≤ 17) :
    Calls Try.prog 96 #[.int .i64 D, .int .i64 n] w fun e w' => e = .returned (.int .i64 (D ^ n)) ∧ w = w' := by
  go_enter Try.func96, Try.ntmps96
  go_wp2
  go_loop [5, 6] (fun s5 s6 => ∃ k : Nat, s6 = .int .i64 k ∧ k ≤ n ∧ s5 = .int .i64 (D ^ k)) (fun _ s6 => n - (intOf s6).toNat)
  case atStart => exact ⟨0, rfl, by omega, by simp⟩
  case round =>
    obtain ⟨k, rfl, hk, rfl⟩ := hrel
    by_cases hlt : k < n
    · have hp := pow_le D h1 h2 (k + 1) (by omega)
      have HE := Lib.hid (Int.pow_succ D k)
      rw [HE.out] at hp
      have i1 : IntKind.i64.wrap (D ^ k * D) = D ^ k * D := IntWalk.i64_in _ (by omega)
      go_wp2
      go_round
      case rel => exact ⟨k + 1, by go_num, by omega, by rw [HE.out]⟩
      case measure => simp [intOf]; omega
    · obtain rfl : k = n := by omega
      go_wp2
      go_ret
      exact ⟨rfl, rfl⟩

end Go.Proofs.Ytliddinpfgpnfaa
