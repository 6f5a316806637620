/- Contract: the law SlingCarries. -/
import Derived.Test.YtliddinpfgpnfaaL7
import Derived.Test.YtliddinpfgpnfaaA20
namespace Go.Proofs.Ytliddinpfgpnfaa
open Go Go.RowKit Go.Sort
set_option linter.unusedSimpArgs false
set_option linter.unusedVariables false

abbrev hwW (cable : Int) (vX vY vV : Value) (charge lo hi length weight : Int) (w : World) : World :=
  (hoW cable vX vY vV charge lo hi w).alloc (.cells #[.int .i64 length, .int .i64 weight] 44)

theorem hwW_below (cable : Int) (vX vY vV : Value) (charge lo hi length weight : Int) (w : World) : Below w.heap.size w (hwW cable vX vY vV charge lo hi length weight w) :=
  (hoW_below cable vX vY vV charge lo hi w).alloc (by simp; omega) _

theorem box522 {w wr : World} {cable : Int} {vX vY vV : Value} {charge lo hi length weight : Int} (hb : Below (w.heap.size + 1 + 1 + 1) (hwW cable vX vY vV charge lo hi length weight w) wr) :
    (wr.cell? ⟨w.heap.size, 0, none⟩ = some (.int .i64 cable) ∧ wr.cell? ⟨w.heap.size, 1, none⟩ = some vX ∧ wr.cell? ⟨w.heap.size, 2, none⟩ = some vY ∧ wr.cell? ⟨w.heap.size, 3, none⟩ = some vV ∧ wr.cell? ⟨w.heap.size, 4, none⟩ = some (.int .i64 charge)) ∧
    (wr.cell? ⟨w.heap.size + 1, 0, none⟩ = some (.int .i64 lo) ∧ wr.cell? ⟨w.heap.size + 1, 1, none⟩ = some (.int .i64 hi)) ∧ (wr.cell? ⟨w.heap.size + 1 + 1, 0, none⟩ = some (.int .i64 length) ∧ wr.cell? ⟨w.heap.size + 1 + 1, 1, none⟩ = some (.int .i64 weight)) ∧ w.heap.size + 3 ≤ wr.heap.size := by
  have hz : (hwW cable vX vY vV charge lo hi length weight w).heap.size = w.heap.size + 1 + 1 + 1 := by simp
  have h2 : Below (w.heap.size + 1 + 1) (hoW cable vX vY vV charge lo hi w) wr := ((Below.refl _ _).alloc (by simp) _).trans (hb.mono (by omega))
  obtain ⟨a, b, _⟩ := box52 h2
  have h3 : wr.heap[w.heap.size + 1 + 1]? = some (.cells #[.int .i64 length, .int .i64 weight] 44 (0, 0)) := by
    rw [hb.block _ (by omega)]
    rw [show w.heap.size + 1 + 1 = (hoW cable vX vY vV charge lo hi w).heap.size by simp]
    exact heap_alloc_new _ _
  exact ⟨a, b, ⟨by rw [(blk_cells h3 0).1]; rfl, by rw [(blk_cells h3 1).1]; rfl⟩, by have := hb.size; omega⟩

set_option maxRecDepth 100000 in
set_option maxHeartbeats 3200000 in
theorem law_Carries (vX vY vV : Value) (X Y : List Int) (V : List (List Int)) (cable charge lo hi length weight : Int) (w : World) (hR : RT w vX vY vV X Y V) :
    Calls Try.prog 4 #[.agg #[.int .i64 cable, vX, vY, vV, .int .i64 charge], .agg #[.int .i64 lo, .int .i64 hi], .agg #[.int .i64 length, .int .i64 weight]] w (AllBelow (.bool true) w) := by
  have B3 := hwW_below cable vX vY vV charge lo hi length weight w
  have z3 : (hwW cable vX vY vV charge lo hi length weight w).heap.size = w.heap.size + 1 + 1 + 1 := by simp
  have HC := Lib.hid (car_eq cable X Y V charge lo hi length weight)
  have HD := Lib.hid (deep_eq cable X Y V charge lo hi weight)
  go_enter Try.func4, Try.ntmps4
  go_wp2_with fail
  refine (sling_Carries vX vY vV X Y V cable charge lo hi length weight _ (hR.below B3)).mono ?_
  rintro e w1 ⟨rfl, hb⟩
  rw [HC.out]
  have HK := Lib.hid (fun (W : World) (hb : Below w.heap.size w W) => ref_Carries vX vY vV X Y V cable charge lo hi length weight W (hR.below hb))
  have HM := Lib.hid (fun (W : World) (hb : Below w.heap.size w W) => ref_Deepest vX vY vV X Y V cable charge lo hi weight W (hR.below hb))
  generalize carS cable X Y V charge lo hi length weight = c at *
  obtain ⟨b1, e1⟩ := c
  have E1 := B3.trans (hb.mono (by rw [z3]; omega))
  rw [z3] at hb
  obtain ⟨⟨q0, q1, q2, q3, q4⟩, ⟨q5, q6⟩, ⟨q7, q8⟩, q9⟩ := box522 hb
  go_wp2_with fail
  refine (HK.out _ E1).mono ?_
  rintro e w2 ⟨rfl, hb2⟩
  have E2 := E1.trans (hb2.mono E1.size)
  have G2 := hb.trans (hb2.mono (by omega))
  clear q0 q1 q2 q3 q4 q5 q6 q7 q8 hb hb2
  obtain ⟨⟨q0, q1, q2, q3, q4⟩, ⟨q5, q6⟩, ⟨q7, q8⟩, q9⟩ := box522 G2
  go_wp2_with fail
  refine (sling_Deepest vX vY vV X Y V cable charge lo hi weight _ (hR.below E2)).mono ?_
  rintro e w3 ⟨rfl, hb3⟩
  rw [HD.out]
  generalize deepS cable X Y V charge lo hi weight = c at *
  obtain ⟨n1, e2⟩ := c
  have E3 := E2.trans (hb3.mono E2.size)
  have G3 := G2.trans (hb3.mono (by omega))
  clear q0 q1 q2 q3 q4 q5 q6 q7 q8 G2 hb3
  obtain ⟨⟨q0, q1, q2, q3, q4⟩, ⟨q5, q6⟩, ⟨q7, q8⟩, q9⟩ := box522 G3
  go_wp2_with fail
  refine (HM.out _ E3).mono ?_
  rintro e w4 ⟨rfl, hb4⟩
  have E4 := E3.trans (hb4.mono E3.size)
  go_wp2_with fail
  refine (law_works _).mono ?_
  rintro e w5 ⟨rfl, hb5⟩
  go_wp2
  go_ret
  exact ⟨rfl, E4.trans (hb5.mono E4.size)⟩

end Go.Proofs.Ytliddinpfgpnfaa
