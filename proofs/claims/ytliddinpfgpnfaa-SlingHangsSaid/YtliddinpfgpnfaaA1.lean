/- Contracts of small functions of the sling program. -/
import Derived.Test.YtliddinpfgpnfaaB
namespace Go.Proofs.Ytliddinpfgpnfaa
open Go Go.RowKit Go.Sort
set_option linter.unusedSimpArgs false
set_option linter.unusedVariables false

/-- within -/
def wi (n lo hi : Int) : Bool := decide (lo ≤ n) && decide (n ≤ hi)

set_option maxHeartbeats 400000 in
theorem sling_within (n lo hi : Int) (w : World) :
    Calls Try.prog 45 #[.int .i64 n, .int .i64 lo, .int .i64 hi] w fun e w' => e = .returned (.bool (wi n lo hi)) ∧ w = w' := by
  by_cases h : lo ≤ n
  all_goals
    go_enter Try.func45, Try.ntmps45
    go_wp2
    go_ret
    simp [wi]
    try omega

def slingV (a b c : Int) : Int := if wi c 1 4 && wi a 0 (wrap64 (2 * c)) && wi b 0 c then 0 else 70

set_option maxHeartbeats 400000 in
theorem sling_Check (a b c : Int) (w : World) :
    Calls Try.prog 41 #[.agg #[.int .i64 a, .int .i64 b, .int .i64 c]] w fun e w' => e = .returned (.int .i64 (slingV a b c)) ∧ Below w.heap.size w w' := by
  go_enter Try.func41, Try.ntmps41
  go_wp2_with (go_at_call 45; refine (sling_within _ _ _ _).mono ?_; rintro e w' ⟨rfl, rfl⟩)
  all_goals go_ret
  all_goals (refine ⟨by simp_all [slingV], (Below.refl _ _).alloc (Nat.le_refl _) _⟩)

set_option maxHeartbeats 400000 in
theorem sling_started (a b : Int) (w : World) :
    Calls Try.prog 42 #[.agg #[.int .i64 a, .int .i64 b]] w fun e w' => e = .returned (.bool (wi a (-1000) 1000 && wi b (-1000) 1000)) ∧ Below w.heap.size w w' := by
  go_enter Try.func42, Try.ntmps42
  go_wp2_with (go_at_call 45; refine (sling_within _ _ _ _).mono ?_; rintro e w' ⟨rfl, rfl⟩)
  all_goals go_ret
  all_goals (refine ⟨by simp_all, (Below.refl _ _).alloc (Nat.le_refl _) _⟩)


/-- The speed behind a tick. -/
def tickV (num damp D a v d g : Int) : Int := wrap64 (wrap64 (wrap64 (wrap64 (D * v) - wrap64 (num * a)) - wrap64 (damp * v)) + wrap64 (g * wrap64 (d * D)))

set_option maxRecDepth 100000 in
set_option maxHeartbeats 1600000 in
theorem sling_tick (b : Nat) (num damp D a v d g : Int) (w : World) (h0 : w.cell? ⟨b, 0, none⟩ = some (.int .i64 num)) (h1 : w.cell? ⟨b, 1, none⟩ = some (.int .i64 damp)) (h2 : w.cell? ⟨b, 2, none⟩ = some (.int .i64 D))
   (h3 : w.cell? ⟨b, 3, none⟩ = some (.int .i64 a)) (h4 : w.cell? ⟨b, 4, none⟩ = some (.int .i64 v)) (h5 : w.cell? ⟨b, 5, none⟩ = some (.int .i64 d))
   (f3 : w.frozen? ⟨b, 3, none⟩ = false) (f4 : w.frozen? ⟨b, 4, none⟩ = false) (f5 : w.frozen? ⟨b, 5, none⟩ = false) :
    Calls Try.prog 46 #[.pointer (some ⟨b, 0, none⟩), .int .i64 g] w fun e w' => e = .returned (.tuple #[]) ∧ w' = (((w.setCell ⟨b, 5, none⟩ (.int .i64 (wrap64 (d * D)))).setCell ⟨b, 4, none⟩ (.int .i64 (tickV num damp D a v d g))).setCell ⟨b, 3, none⟩ (.int .i64 (wrap64 (wrap64 (D * a) + tickV num damp D a v d g)))).drew.drew.drew := by
  go_enter Try.func46, Try.ntmps46
  go_wp2
  refine region_tail 12 (by kernel_rfl) (by kernel_rfl) ?_
  simp only [List.take_succ_cons, List.take_zero, List.drop_succ_cons, List.drop_zero]
  repeat still_step
  refine wpStill_nil ?_
  go_wp2
  refine region_tail 42 (by kernel_rfl) (by kernel_rfl) ?_
  simp only [List.take_succ_cons, List.take_zero, List.drop_succ_cons, List.drop_zero]
  repeat still_step
  refine wpStill_nil ?_
  go_wp2
  refine region_tail 18 (by kernel_rfl) (by kernel_rfl) ?_
  simp only [List.take_succ_cons, List.take_zero, List.drop_succ_cons, List.drop_zero]
  repeat still_step
  refine wpStill_nil ?_
  go_wp2
  go_end0
  exact ⟨rfl, rfl⟩

end Go.Proofs.Ytliddinpfgpnfaa
