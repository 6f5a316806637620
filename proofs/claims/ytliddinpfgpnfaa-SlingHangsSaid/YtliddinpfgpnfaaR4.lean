/- Contracts of the specification: the value of a table at a point. -/
import Derived.Test.YtliddinpfgpnfaaL6
namespace Go.Proofs.Ytliddinpfgpnfaa
open Go Go.RowKit Go.Sort
set_option linter.unusedSimpArgs false
set_option linter.unusedVariables false

set_option maxRecDepth 100000 in
set_option maxHeartbeats 6400000 in
theorem val_core (bX oX cX nX bY oY cY nY bV oV cV nV b1 o1 c1 b2 o2 c2 i k : Nat) (xi xi1 yk yk1 v00 v01 v10 v11 x y : Int) (w : World)
    (hiX : i + 1 < nX) (hkY : k + 1 < nY) (hnV : nV = nX) (hnX : nX ≤ 12) (hnY : nY ≤ 12) (hbX : bX < w.heap.size) (hbY : bY < w.heap.size) (hbV : bV < w.heap.size) (hb1 : b1 < w.heap.size) (hb2 : b2 < w.heap.size)
    (hX0 : w.cell? ⟨bX, oX + i, none⟩ = some (.int .i64 xi)) (hX1 : w.cell? ⟨bX, oX + (i + 1), none⟩ = some (.int .i64 xi1)) (hY0 : w.cell? ⟨bY, oY + k, none⟩ = some (.int .i64 yk)) (hY1 : w.cell? ⟨bY, oY + (k + 1), none⟩ = some (.int .i64 yk1))
    (hr1 : w.cell? ⟨bV, oV + i, none⟩ = some (.slice (some ⟨b1, o1, none⟩) nY c1)) (hr2 : w.cell? ⟨bV, oV + (i + 1), none⟩ = some (.slice (some ⟨b2, o2, none⟩) nY c2))
    (h00 : w.cell? ⟨b1, o1 + k, none⟩ = some (.int .i64 v00)) (h01 : w.cell? ⟨b1, o1 + (k + 1), none⟩ = some (.int .i64 v01)) (h10 : w.cell? ⟨b2, o2 + k, none⟩ = some (.int .i64 v10)) (h11 : w.cell? ⟨b2, o2 + (k + 1), none⟩ = some (.int .i64 v11))
    (x0 : xi ≤ x) (x1 : x ≤ xi1) (x2 : xi1 - xi ≤ 10000) (y0 : yk ≤ y) (y1 : y ≤ yk1) (y2 : yk1 - yk ≤ 10000) (x3 : -1000000 ≤ xi) (x4 : xi1 ≤ 1000000) (y3 : -1000000 ≤ yk) (y4 : yk1 ≤ 1000000)
    (g00 : -1000000 ≤ v00 ∧ v00 ≤ 1000000) (g01 : -1000000 ≤ v01 ∧ v01 ≤ 1000000) (g10 : -1000000 ≤ v10 ∧ v10 ≤ 1000000) (g11 : -1000000 ≤ v11 ∧ v11 ≤ 1000000)
    (H1 : Hid (∀ w', Below w.heap.size w w' → Calls Try.prog 117 #[.slice (some ⟨bX, oX, none⟩) nX cX, .int .i64 x] w' fun e w'' => e = .returned (.int .i64 i) ∧ w' = w''))
    (H2 : Hid (∀ w', Below w.heap.size w w' → Calls Try.prog 117 #[.slice (some ⟨bY, oY, none⟩) nY cY, .int .i64 y] w' fun e w'' => e = .returned (.int .i64 k) ∧ w' = w'')) :
    Calls Try.prog 110 #[.agg #[.slice (some ⟨bX, oX, none⟩) nX cX, .slice (some ⟨bY, oY, none⟩) nY cY, .slice (some ⟨bV, oV, none⟩) nV cV], .int .i64 x, .int .i64 y] w
      (AllBelow (.tuple #[.int .i64 ((xi1 - x) * (yk1 - y) * v00 + (x - xi) * (yk1 - y) * v10 + (xi1 - x) * (y - yk) * v01 + (x - xi) * (y - yk) * v11), .int .i64 ((xi1 - xi) * (yk1 - yk))]) w) := by
  have m1 := mul_bound (a := xi1 - x) (b := yk1 - y) (A := 10000) (B := 10000) (by omega) (by omega) (by omega) (by omega)
  have m2 := mul_bound (a := x - xi) (b := yk1 - y) (A := 10000) (B := 10000) (by omega) (by omega) (by omega) (by omega)
  have m3 := mul_bound (a := xi1 - x) (b := y - yk) (A := 10000) (B := 10000) (by omega) (by omega) (by omega) (by omega)
  have m4 := mul_bound (a := x - xi) (b := y - yk) (A := 10000) (B := 10000) (by omega) (by omega) (by omega) (by omega)
  have m5 := mul_bound (a := xi1 - xi) (b := yk1 - yk) (A := 10000) (B := 10000) (by omega) (by omega) (by omega) (by omega)
  have q1 := mul_bound2 m1.1 m1.2 g00.1 g00.2
  have q2 := mul_bound2 m2.1 m2.2 g10.1 g10.2
  have q3 := mul_bound2 m3.1 m3.2 g01.1 g01.2
  have q4 := mul_bound2 m4.1 m4.2 g11.1 g11.2
  have d1 : xi1 - x + (x - xi) = xi1 - xi := by omega
  have d2 : yk1 - y + (y - yk) = yk1 - yk := by omega
  obtain ⟨m11, m12⟩ := m1; obtain ⟨m21, m22⟩ := m2; obtain ⟨m31, m32⟩ := m3; obtain ⟨m41, m42⟩ := m4; obtain ⟨m51, m52⟩ := m5
  obtain ⟨q11, q12⟩ := q1; obtain ⟨q21, q22⟩ := q2; obtain ⟨q31, q32⟩ := q3; obtain ⟨q41, q42⟩ := q4
  obtain ⟨z1, z2⟩ := g00; obtain ⟨z3, z4⟩ := g01; obtain ⟨z5, z6⟩ := g10; obtain ⟨z7, z8⟩ := g11
  subst hnV
  have B2 := (Below.refl w.heap.size w).alloc (Nat.le_refl _) (.cells #[.slice (some ⟨bX, oX, none⟩) nV cX, .slice (some ⟨bY, oY, none⟩) nY cY, .slice (some ⟨bV, oV, none⟩) nV cV] 40)
  have B3 : ∀ d os, Below w.heap.size w (grow (redrawn _ d) os) := fun d os => B2.trans ((below_regrown _ d os).mono (by simp))
  have v_X : bX < w.heap.size + 1 := by omega
  have v_Y : bY < w.heap.size + 1 := by omega
  have v_V : bV < w.heap.size + 1 := by omega
  have v_1 : b1 < w.heap.size + 1 := by omega
  have v_2 : b2 < w.heap.size + 1 := by omega
  have hi2 : (i : Int) + 1 < (nV : Int) := by omega
  have hk2 : (k : Int) + 1 < (nY : Int) := by omega
  go_enter Try.func110, Try.ntmps110
  go_wp2
  refine rg_all (by kernel_rfl) (by kernel_rfl) ?_
  repeat (go_big_quiet_step ((first
    | (go_at_call_of 117 (Value.int .i64 x); exact Calls.rg_same (H1.out _ (B3 _ _)))
    | (go_at_call_of 117 (Value.int .i64 y); exact Calls.rg_same (H2.out _ (B3 _ _))))))
  refine wpQuiet_nil ?_
  intro w1 hw1
  have F1 := rg_below hw1
  clear hw1
  obtain ⟨hc1, hf1, hs1⟩ := bcell F1
  have u1_X : bX < w1.heap.size := by simp at hs1; omega
  have u1_Y : bY < w1.heap.size := by simp at hs1; omega
  have u1_V : bV < w1.heap.size := by simp at hs1; omega
  have u1_1 : b1 < w1.heap.size := by simp at hs1; omega
  have u1_2 : b2 < w1.heap.size := by simp at hs1; omega
  have u1_a : w.heap.size < w1.heap.size := by simp at hs1; omega
  go_wp2
  refine rg_all (by kernel_rfl) (by kernel_rfl) ?_
  repeat (go_big_quiet_step (fail))
  refine wpQuiet_nil ?_
  intro w2 hw2
  have F2 := F1.trans ((rg_below hw2).mono F1.size)
  clear hw2
  clear F1 hc1 hf1 hs1 u1_X u1_Y u1_V u1_1 u1_2 u1_a
  obtain ⟨hc2, hf2, hs2⟩ := bcell F2
  have u2_X : bX < w2.heap.size := by simp at hs2; omega
  have u2_Y : bY < w2.heap.size := by simp at hs2; omega
  have u2_V : bV < w2.heap.size := by simp at hs2; omega
  have u2_1 : b1 < w2.heap.size := by simp at hs2; omega
  have u2_2 : b2 < w2.heap.size := by simp at hs2; omega
  have u2_a : w.heap.size < w2.heap.size := by simp at hs2; omega
  go_wp2
  refine rg_all (by kernel_rfl) (by kernel_rfl) ?_
  repeat (go_big_quiet_step (fail))
  refine wpQuiet_nil ?_
  intro w3 hw3
  have F3 := F2.trans ((rg_below hw3).mono F2.size)
  clear hw3
  clear F2 hc2 hf2 hs2 u2_X u2_Y u2_V u2_1 u2_2 u2_a
  obtain ⟨hc3, hf3, hs3⟩ := bcell F3
  have u3_X : bX < w3.heap.size := by simp at hs3; omega
  have u3_Y : bY < w3.heap.size := by simp at hs3; omega
  have u3_V : bV < w3.heap.size := by simp at hs3; omega
  have u3_1 : b1 < w3.heap.size := by simp at hs3; omega
  have u3_2 : b2 < w3.heap.size := by simp at hs3; omega
  have u3_a : w.heap.size < w3.heap.size := by simp at hs3; omega
  go_wp2
  refine rg_all (by kernel_rfl) (by kernel_rfl) ?_
  simp only [List.append_eq, List.cons_append, List.nil_append]
  repeat (go_big_quiet_step (fail))
  refine wpQuiet_nil ?_
  intro w4 hw4
  have F4 := F3.trans ((rg_below hw4).mono F3.size)
  clear hw4
  go_wp2
  go_ret2
  exact ⟨rfl, B2.trans (F4.mono (by simp))⟩

set_option maxHeartbeats 6400000 in
theorem ref_Value (vX vY vV : Value) (X Y : List Int) (V : List (List Int)) (x y : Int) (w : World) (hR : RT w vX vY vV X Y V) (hE : tableE X Y V = 0) (hx0 : hd X ≤ x) (hx1 : x ≤ la X) (hy0 : hd Y ≤ y) (hy1 : y ≤ la Y) :
    Calls Try.prog 110 #[.agg #[vX, vY, vV], .int .i64 x, .int .i64 y] w (AllBelow (.tuple #[.int .i64 (valN X Y V (cellR X x) (cellR Y y) x y), .int .i64 (valD X Y (cellR X x) (cellR Y y))]) w) := by
  obtain ⟨aX, aY, aV, aB⟩ := tableE_zero hE
  clear hE
  obtain ⟨i1, i2, i3⟩ := cellR_at aX hx0 hx1
  obtain ⟨k1, k2, k3⟩ := cellR_at aY hy0 hy1
  have hlX := axB_len aX
  have hlY := axB_len aY
  have si := kn_step aX _ i1
  have sk := kn_step aY _ k1
  have bx0 := kn_bound aX (cellR X x) (by omega)
  have bx1 := kn_bound aX (cellR X x + 1) i1
  have by0 := kn_bound aY (cellR Y y) (by omega)
  have by1 := kn_bound aY (cellR Y y + 1) k1
  obtain ⟨hrows, hvb⟩ := table_rows aB
  obtain ⟨bX, oX, cX, rfl, hcX, hbX, hcellX⟩ := hR.x.open (by omega)
  obtain ⟨bY, oY, cY, rfl, hcY, hbY, hcellY⟩ := hR.y.open (by omega)
  obtain ⟨bV, oV, cV, b1, o1, c1, rfl, hbV, hb1, hr1, hv1⟩ := hR.v.cells hrows (i := cellR X x) (by omega) (by omega)
  obtain ⟨bV', oV', cV', b2, o2, c2, e, hbV', hb2, hr2, hv2⟩ := hR.v.cells hrows (i := cellR X x + 1) (by omega) (by omega)
  cases e
  have hRX := hR.x
  have hRY := hR.y
  clear hR hbV'
  have hX0 := hcellX (cellR X x) (by omega)
  have hX1 := hcellX (cellR X x + 1) (by omega)
  have hY0 := hcellY (cellR Y y) (by omega)
  have hY1 := hcellY (cellR Y y + 1) (by omega)
  clear hcellX hcellY
  change w.cell? _ = some (.int .i64 (kn X _)) at hX0 hX1
  change w.cell? _ = some (.int .i64 (kn Y _)) at hY0 hY1
  have hv00 := hv1 (cellR Y y) (by omega)
  have hv01 := hv1 (cellR Y y + 1) (by omega)
  have hv10 := hv2 (cellR Y y) (by omega)
  have hv11 := hv2 (cellR Y y + 1) (by omega)
  clear hv1 hv2
  have g00 := hvb (cellR X x) (cellR Y y) (by omega) (by omega)
  have g01 := hvb (cellR X x) (cellR Y y + 1) (by omega) (by omega)
  have g10 := hvb (cellR X x + 1) (cellR Y y) (by omega) (by omega)
  have g11 := hvb (cellR X x + 1) (cellR Y y + 1) (by omega) (by omega)
  clear hvb hrows
  have H1 := Lib.hid (fun w' (hb : Below w.heap.size w w') => ref_part (.slice (some ⟨bX, oX, none⟩) X.length cX) X x w' (hRX.below hb) aX)
  have H2 := Lib.hid (fun w' (hb : Below w.heap.size w w') => ref_part (.slice (some ⟨bY, oY, none⟩) Y.length cY) Y y w' (hRY.below hb) aY)
  unfold valN valD
  exact val_core bX oX cX X.length bY oY cY Y.length bV oV cV V.length b1 o1 c1 b2 o2 c2 (cellR X x) (cellR Y y) _ _ _ _ _ _ _ _ x y w i1 k1 (by omega) (by omega) (by omega) hbX hbY hbV hb1 hb2 hX0 hX1 hY0 hY1 hr1 hr2 hv00 hv01 hv10 hv11
    i2 i3 si.2 k2 k3 sk.2 bx0.1 bx1.2 by0.1 by1.2 g00 g01 g10 g11 H1 H2

end Go.Proofs.Ytliddinpfgpnfaa
