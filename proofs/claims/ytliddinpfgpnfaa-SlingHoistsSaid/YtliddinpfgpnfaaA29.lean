/- Contract: the law SlingHoists. -/
import Derived.Test.YtliddinpfgpnfaaRB
import Derived.Test.YtliddinpfgpnfaaA20
import Derived.Test.YtliddinpfgpnfaaA28
import Derived.Laws.StructEq
namespace Go.Proofs.Ytliddinpfgpnfaa
open Go Go.RowKit Go.Sort
set_option linter.unusedSimpArgs false
set_option linter.unusedVariables false

theorem eq56 (a b c d : Int) (p : Bool) (w : World) : (Op.equalIn 10000 56 (.agg #[.int .i64 a, .int .i64 b, .int .i64 c, .int .i64 d, .bool p]) (.agg #[.int .i64 a, .int .i64 b, .int .i64 c, .int .i64 d, .bool p])).run Try.prog w = .ok true w := by
  simp [go_sem]

set_option maxRecDepth 100000 in
set_option maxHeartbeats 6400000 in
theorem law_Hoists (vX vY vV : Value) (X Y : List Int) (V : List (List Int)) (cable charge lo hi : Int) (vl : Value) (l : List (Int × Int)) (w : World) (hR : RT w vX vY vV X Y V) (hl : RP w vl l) (hln : l.length ≤ 1000000000000000000) :
    Calls Try.prog 6 #[.agg #[.int .i64 cable, vX, vY, vV, .int .i64 charge], .agg #[.int .i64 lo, .int .i64 hi], vl] w (AllBelow (.bool true) w) := by
  have B2 := hoW_below cable vX vY vV charge lo hi w
  have z2 : (hoW cable vX vY vV charge lo hi w).heap.size = w.heap.size + 1 + 1 := by simp
  have HA := Lib.hid (fun (W : World) (hb : Below (hoW cable vX vY vV charge lo hi w).heap.size (hoW cable vX vY vV charge lo hi w) W) => sling_CheckHoist cable charge vX vY vV X Y V W (hR.below (B2.trans (hb.mono B2.size))))
  have HB := Lib.hid (fun (W : World) (hb : Below (hoW cable vX vY vV charge lo hi w).heap.size (hoW cable vX vY vV charge lo hi w) W) => ref_CheckHoist cable charge vX vY vV X Y V W (hR.below (B2.trans (hb.mono B2.size))))
  have HC := Lib.hid (fun (W : World) (hb : Below w.heap.size w W) => sling_Haul vX vY vV X Y V cable charge lo hi vl l W (hR.below hb) (hl.below hb) hln)
  have HD := Lib.hid (fun (W : World) (hb : Below w.heap.size w W) => (haul_eq cable X Y V charge lo hi l).symm ▸ ref_Haul vX vY vV X Y V cable charge lo hi vl l W (hR.below hb) (hl.below hb) hln)
  generalize hh : haulR cable X Y V charge lo hi l = h at *
  clear hh
  obtain ⟨⟨L, W0, S, C, cut, t⟩, n, err⟩ := h
  obtain ⟨Al, cl, rfl, hcl⟩ := hl.form
  obtain ⟨⟨q0, q1, q2, q3, q4⟩, ⟨q5, q6⟩, q7⟩ := box52 (w := w) (cable := cable) (vX := vX) (vY := vY) (vV := vV) (charge := charge) (lo := lo) (hi := hi) (Below.refl _ _)
  have uH : w.heap.size < (hoW cable vX vY vV charge lo hi w).heap.size := by omega
  go_enter Try.func6, Try.ntmps6
  go_wp2_with fail
  change Code.wp _ _ _ _ (hoW cable vX vY vV charge lo hi w)
  have F0 := Below.refl (w.heap.size + 1 + 1) (hoW cable vX vY vV charge lo hi w)
  have bx := fun (W : World) (hb : Below (w.heap.size + 1 + 1) (hoW cable vX vY vV charge lo hi w) W) => box52 hb
  generalize hoW cable vX vY vV charge lo hi w = W2 at *
  refine rg_all (by kernel_rfl) (by kernel_rfl) ?_
  repeat (go_big_quiet_step ((first | (go_at_call 23; exact Calls.regrown_of (HA.out _ (below_regrown _ _ _))) | (go_at_call 24; exact Calls.regrown_of (HB.out _ (below_regrown _ _ _))))))
  refine wpQuiet_nil ?_
  intro w5 hw5
  have F5 := rg_below hw5
  have E5 := B2.trans (F5.mono B2.size)
  have G5 := F0.trans (F5.mono (by omega))
  clear hw5 HA HB q0 q1 q2 q3 q4 q5 q6 q7
  obtain ⟨⟨q0, q1, q2, q3, q4⟩, ⟨q5, q6⟩, q7⟩ := bx _ G5
  go_wp2_with fail
  refine (HC.out _ E5).mono ?_
  rintro e w6 ⟨rfl, hb6⟩
  have E6 := E5.trans (hb6.mono E5.size)
  have G6 := G5.trans (hb6.mono (by omega))
  clear q0 q1 q2 q3 q4 q5 q6 q7
  obtain ⟨⟨q0, q1, q2, q3, q4⟩, ⟨q5, q6⟩, q7⟩ := bx _ G6
  have u1 : w.heap.size < w6.heap.size := by omega
  have u2 : w.heap.size + 1 < w6.heap.size := by omega
  go_wp2_with fail
  refine (HD.out _ (E6.alloc E6.size _)).mono ?_
  rintro e w7 ⟨rfl, hb7⟩
  have E7 := (E6.alloc E6.size _).trans (hb7.mono (by simp; have := E6.size; omega))
  have hT : w7.heap[w6.heap.size]? = _ := (hb7.block w6.heap.size (by simp)).trans (heap_alloc_new w6 _)
  obtain ⟨⟨t0, t1, t2, t3, t4⟩, ⟨f0, f1, f2, f3, f4⟩⟩ := hang_cells hT
  have u3 := blk_lt hT
  clear hT q0 q1 q2 q3 q4 q5 q6 q7
  go_wp2_with fail
  refine (law_works _).mono ?_
  rintro e w8 ⟨rfl, hb8⟩
  have E8 := (E7.alloc E7.size _).trans (hb8.mono (by simp; have := E7.size; omega))
  go_wp2
  go_ret
  exact ⟨rfl, E8⟩

end Go.Proofs.Ytliddinpfgpnfaa
