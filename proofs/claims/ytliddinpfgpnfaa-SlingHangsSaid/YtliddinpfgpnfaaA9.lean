/- Contract: a hoist. -/
import Derived.Test.YtliddinpfgpnfaaA8
namespace Go.Proofs.Ytliddinpfgpnfaa
open Go Go.RowKit Go.Sort
set_option linter.unusedSimpArgs false
set_option linter.unusedVariables false

theorem Calls.rg_same {P : Program} {f : FuncId} {args : Array Value} {w : World} {d : Nat} {os : Array Obj} {v : Value}
    (h : Calls P f args (grow (redrawn w d) os) fun e w' => e = .returned v ∧ grow (redrawn w d) os = w') : Calls P f args (grow (redrawn w d) os) fun e w'' => e = .returned v ∧ ∃ p : Regrown, w'' = grow (redrawn w p.d) p.os :=
  h.mono fun _ _ ⟨he, hw⟩ => ⟨he, ⟨d, os⟩, hw.symm⟩

/-- The error of a hoist. -/
def hoistE (cable : Int) (X Y : List Int) (V : List (List Int)) (charge : Int) : Int :=
  if wi cable 1 100 && tableE X Y V == 0 && decide (hd X ≤ 0) && decide (cable ≤ la X) && wi charge 0 100 then 0 else 71

set_option maxRecDepth 100000 in
set_option maxHeartbeats 3200000 in
theorem sling_CheckHoist (cable charge : Int) (vX vY vV : Value) (X Y : List Int) (V : List (List Int)) (w : World) (hR : RT w vX vY vV X Y V) :
    Calls Try.prog 23 #[.agg #[.int .i64 cable, vX, vY, vV, .int .i64 charge]] w (AllBelow (.int .i64 (hoistE cable X Y V charge)) w) := by
  have b1 : ∀ w1, Below (w.alloc (.cells #[.int .i64 cable, vX, vY, vV, .int .i64 charge] 42)).heap.size (w.alloc (.cells #[.int .i64 cable, vX, vY, vV, .int .i64 charge] 42)) w1 → Below w.heap.size w w1 :=
    fun w1 h => ((Below.refl w.heap.size w).alloc (Nat.le_refl _) _).trans (h.mono (by simp))
  have hlx := hR.lx
  cases h1 : wi cable 1 100
  · obtain ⟨Ax, cx, rfl, hcx⟩ := hR.x.form
    obtain ⟨Ay, cy, rfl, hcy⟩ := hR.y.form
    obtain ⟨Av, cv, rfl, hcv⟩ := hR.v.form
    go_enter Try.func23, Try.ntmps23
    go_wp2
    refine rg_all (by kernel_rfl) (by kernel_rfl) ?_
    repeat (go_big_quiet_step ((first
      | (go_at_call 45; exact Calls.rg_same (sling_within _ _ _ _))
      | (go_at_call 55; exact Calls.regrown_of (spans_CheckTable _ _ _ X Y V _ (hR.below (b1 _ (below_regrown _ _ _))))))))
    refine wpQuiet_nil ?_
    intro w1 hw1
    have H1 := b1 _ (rg_below hw1)
    clear hw1
    go_wp2
    go_ret
    exact ⟨ret_int (by simp [hoistE, h1]), H1⟩
  · rcases tableE_or X Y V with h2 | h2
    · obtain ⟨a1, a2, a3, a4⟩ := tableE_zero h2
      have hx0 := axB_len a1
      clear a1 a2 a3 a4
      obtain ⟨b, o, c, rfl, hb, hc0, hc1⟩ := hR.x.ends (by omega)
      obtain ⟨Ay, cy, rfl, hcy⟩ := hR.y.form
      obtain ⟨Av, cv, rfl, hcv⟩ := hR.v.form
      have hn2 : (0 : Int) < (X.length : Int) := by omega
      have hn3 : ((X.length : Int) - 1).toNat = X.length - 1 := by omega
      have hb2 : b < w.heap.size + 1 := by omega
      by_cases h3 : hd X ≤ 0
      · have hh3 : decide (0 < hd X) = false := by simpa using h3
        by_cases h4 : cable ≤ la X
        · have hh4 : decide (la X < cable) = false := by simpa using h4
          cases h5 : wi charge 0 100
          all_goals
            go_enter Try.func23, Try.ntmps23
            go_wp2
            refine rg_all (by kernel_rfl) (by kernel_rfl) ?_
            repeat (go_big_quiet_step ((first
              | (go_at_call 45; exact Calls.rg_same (sling_within _ _ _ _))
              | (go_at_call 55; exact Calls.regrown_of (spans_CheckTable _ _ _ X Y V _ (hR.below (b1 _ (below_regrown _ _ _))))))))
            refine wpQuiet_nil ?_
            intro w1 hw1
            have H1 := b1 _ (rg_below hw1)
            clear hw1
            go_wp2
            go_ret
            exact ⟨ret_int (by simp [hoistE, h1, h2, h3, h4, h5]), H1⟩
        · have hh4 : decide (la X < cable) = true := by simp; omega
          go_enter Try.func23, Try.ntmps23
          go_wp2
          refine rg_all (by kernel_rfl) (by kernel_rfl) ?_
          repeat (go_big_quiet_step ((first
            | (go_at_call 45; exact Calls.rg_same (sling_within _ _ _ _))
            | (go_at_call 55; exact Calls.regrown_of (spans_CheckTable _ _ _ X Y V _ (hR.below (b1 _ (below_regrown _ _ _))))))))
          refine wpQuiet_nil ?_
          intro w1 hw1
          have H1 := b1 _ (rg_below hw1)
          clear hw1
          go_wp2
          go_ret
          exact ⟨ret_int (by simp [hoistE, h1, h2, h3]; omega), H1⟩
      · have hh3 : decide (0 < hd X) = true := by simp; omega
        go_enter Try.func23, Try.ntmps23
        go_wp2
        refine rg_all (by kernel_rfl) (by kernel_rfl) ?_
        repeat (go_big_quiet_step ((first
          | (go_at_call 45; exact Calls.rg_same (sling_within _ _ _ _))
          | (go_at_call 55; exact Calls.regrown_of (spans_CheckTable _ _ _ X Y V _ (hR.below (b1 _ (below_regrown _ _ _))))))))
        refine wpQuiet_nil ?_
        intro w1 hw1
        have H1 := b1 _ (rg_below hw1)
        clear hw1
        go_wp2
        go_ret
        exact ⟨ret_int (by simp [hoistE, h1, h2]; omega), H1⟩
    · obtain ⟨Ax, cx, rfl, hcx⟩ := hR.x.form
      obtain ⟨Ay, cy, rfl, hcy⟩ := hR.y.form
      obtain ⟨Av, cv, rfl, hcv⟩ := hR.v.form
      go_enter Try.func23, Try.ntmps23
      go_wp2
      refine rg_all (by kernel_rfl) (by kernel_rfl) ?_
      repeat (go_big_quiet_step ((first
        | (go_at_call 45; exact Calls.rg_same (sling_within _ _ _ _))
        | (go_at_call 55; exact Calls.regrown_of (spans_CheckTable _ _ _ X Y V _ (hR.below (b1 _ (below_regrown _ _ _))))))))
      refine wpQuiet_nil ?_
      intro w1 hw1
      have H1 := b1 _ (rg_below hw1)
      clear hw1
      go_wp2
      go_ret
      exact ⟨ret_int (by simp [hoistE, h2]), H1⟩

end Go.Proofs.Ytliddinpfgpnfaa
