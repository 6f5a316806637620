/- Contract: the look at the examples. -/
import Derived.Test.YtliddinpfgpnfaaA5
import Derived.Test.YtliddinpfgpnfaaA19
namespace Go.Proofs.Ytliddinpfgpnfaa
open Go Go.RowKit Go.Sort
set_option linter.unusedSimpArgs false
set_option linter.unusedVariables false

theorem ex_swing : swingE 1 1 2 1 1 [0, 1] = 0 ∧ swingL 1 1 2 1 1 [0, 1] = [(1, 1), (3, 2)] := by decide +kernel
theorem ex_deep : deepR 50 [0, 50] [0, 20] [[300, 200], [200, 100]] 2 0 10 200 = (25, 0) := by decide +kernel

theorem RP.two {w : World} {b : Nat} {x0 y0 x1 y1 : Int} (h0 : w.cell? ⟨b, 0, none⟩ = some (.int .i64 x0)) (h1 : w.cell? ⟨b, 1, none⟩ = some (.int .i64 y0)) (h2 : w.cell? ⟨b, 2, none⟩ = some (.int .i64 x1)) (h3 : w.cell? ⟨b, 3, none⟩ = some (.int .i64 y1)) : RP w (.slice (some ⟨b, 0, none⟩) 2 2) [(x0, y0), (x1, y1)] :=
  ⟨_, 2, rfl, Nat.le_refl _, rfl, fun j u hu => ⟨b, 0, rfl, by
    rcases j with _ | _ | _ | _ | j
    · cases hu; exact h0
    · cases hu; exact h1
    · cases hu; exact h2
    · cases hu; exact h3
    · simp [prs] at hu⟩⟩

set_option maxHeartbeats 3200000 in
theorem law_works (w : World) : Calls Try.prog 13 #[] w (AllBelow (.bool true) w) := by
  have S := fun (W : World) (b : Nat) (h : RI W (.slice (some ⟨b, 0, none⟩) 2 2) [0, 1]) => sling_Swing 1 1 2 1 1 _ [0, 1] W h (by simp)
  have D := fun (vX vY vV : Value) (W : World) (h : RT W vX vY vV [0, 50] [0, 20] [[300, 200], [200, 100]]) => sling_Deepest vX vY vV _ _ _ 50 2 0 10 200 W h
  rw [ex_deep] at D
  go_enter Try.func13, Try.ntmps13
  go_wp2_with fail
  refine (S _ _ (RI.two (by simp [go_sem]) (by simp [go_sem]))).mono ?_
  rintro e w1 ⟨vo, rfl, hb1, hs⟩
  rw [ex_swing.1]
  rw [ex_swing.2] at hs
  have E1 := ((Below.refl w.heap.size w).alloc (Nat.le_refl _) _).trans (hb1.mono (by simp))
  clear hb1
  go_wp2_with fail
  refine (law_Example _).mono ?_
  rintro e w2 ⟨vX, vY, vV, rfl, hb2, hR⟩
  have E2 := E1.trans (hb2.mono E1.size)
  have hs2 : RP w2 vo [(1, 1), (3, 2)] := RP.below hs hb2
  clear hb2 hs
  go_wp2_with fail
  refine (D _ _ _ _ hR).mono ?_
  rintro e w3 ⟨rfl, hb3⟩
  have E3 := E2.trans (hb3.mono E2.size)
  have hs3 := hs2.below hb3
  clear hb3 hs2
  go_wp2_with fail
  refine (law_sameFractions _ _ [(1, 1), (3, 2)] [(1, 1), (3, 2)] _ (hs3.below ((Below.refl _ _).alloc (Nat.le_refl _) _)) (RP.two (by simp [go_sem]) (by simp [go_sem]) (by simp [go_sem]) (by simp [go_sem])) (by simp) (by simp)).mono ?_
  rintro e w4 ⟨rfl, hb4⟩
  have E4 := (E3.alloc E3.size _).trans (hb4.mono (by simp; have := E3.size; omega))
  go_wp2
  go_ret
  exact ⟨rfl, E4⟩

end Go.Proofs.Ytliddinpfgpnfaa
