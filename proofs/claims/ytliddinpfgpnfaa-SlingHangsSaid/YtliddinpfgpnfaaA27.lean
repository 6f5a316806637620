/- Contracts: a step of a hoist: out, in, hook. -/
import Derived.Test.YtliddinpfgpnfaaA26
namespace Go.Proofs.Ytliddinpfgpnfaa
open Go Go.RowKit Go.Sort
set_option linter.unusedSimpArgs false
set_option linter.unusedVariables false

set_option maxRecDepth 100000 in
set_option maxHeartbeats 1600000 in
theorem winch_do_cut (vX vY vV : Value) (X Y : List Int) (V : List (List Int)) (cable charge lo hi L W S C : Int) (t : Bool) (k n : Int) (g : Nat) (w : World)
    (hg : w.heap[g]? = some (.cells (winchC cable vX vY vV charge lo hi L W S C true t) 107 (0, 0))) (s0 : 0 ≤ S) (s1 : S ≤ 1000000) :
    Calls Try.prog 61 #[.pointer (some ⟨g, 0, none⟩), .agg #[.int .i64 k, .int .i64 n]] w (DoPost cable vX vY vV charge lo hi (doO cable X Y V charge lo hi ⟨L, W, S, C, true, t⟩ k n) g w) := by
  have hlt := blk_lt hg
  obtain ⟨⟨c0, c4⟩, ⟨c7, c8, c9, c10, c11, c12⟩, ⟨f7, f8, f9, f10, f11, f12⟩⟩ := winch_cells cable vX vY vV charge lo hi L W S C true t hg
  clear hg
  have hd := Lib.hid (show doO cable X Y V charge lo hi ⟨L, W, S, C, true, t⟩ k n = none by simp [doO])
  go_enter Try.func61, Try.ntmps61
  go_wp2_with fail
  go_ret
  exact ⟨by rw [hd.out]; rfl, ((Below.refl g w).setCell (Nat.le_refl _) _).alloc (by simp; omega) _, fun s' h => by rw [hd.out] at h; cases h⟩

/-- The world behind the first count of a step: the step's box lies behind it. -/
abbrev stepW (g : Nat) (S k n : Int) (w : World) : World := (w.setCell ⟨g, 9, none⟩ (.int .i64 (S + 1))).alloc (.cells #[.int .i64 k, .int .i64 n] 61)

theorem stepW_facts {cable : Int} {vX vY vV : Value} {charge lo hi L W S C : Int} {cut t : Bool} {g : Nat} {w : World} (k n : Int)
    (hg : w.heap[g]? = some (.cells (winchC cable vX vY vV charge lo hi L W S C cut t) 107 (0, 0))) :
    (stepW g S k n w).heap[g]? = some (.cells (winchC cable vX vY vV charge lo hi L W (S + 1) C cut t) 107 (0, 0)) ∧ Below g w (stepW g S k n w) ∧ (stepW g S k n w).heap.size = w.heap.size + 1 ∧
    (stepW g S k n w).cell? ⟨w.heap.size, 0, none⟩ = some (.int .i64 k) ∧ (stepW g S k n w).cell? ⟨w.heap.size, 1, none⟩ = some (.int .i64 n) := by
  have hlt := blk_lt hg
  have hz : (w.setCell ⟨g, 9, none⟩ (.int .i64 (S + 1))).heap.size = w.heap.size := by simp [World.setCell]
  have hb : (stepW g S k n w).heap[w.heap.size]? = some (.cells #[.int .i64 k, .int .i64 n] 61 (0, 0)) := by rw [← hz]; exact heap_alloc_new _ _
  exact ⟨heap_alloc_old (heap_setCell_at hg _), ((Below.refl g w).setCell (Nat.le_refl _) _).alloc (by rw [hz]; omega) _, by simp, by rw [(blk_cells hb 0).1]; rfl, by rw [(blk_cells hb 1).1]; rfl⟩

theorem within_is {n lo hi : Int} {b : Bool} (h : wi n lo hi = b) (W : World) : Calls Try.prog 45 #[.int .i64 n, .int .i64 lo, .int .i64 hi] W fun e w' => e = .returned (.bool b) ∧ W = w' := by
  have := sling_within n lo hi W; rw [h] at this; exact this

set_option maxRecDepth 100000 in
set_option maxHeartbeats 6400000 in
theorem winch_do_1 (vX vY vV : Value) (X Y : List Int) (V : List (List Int)) (cable charge lo hi L W S C : Int) (t : Bool) (n : Int) (g : Nat) (w0 w : World) (hR : RT w0 vX vY vV X Y V) (hB : Below w0.heap.size w0 w) (hg0 : w0.heap.size ≤ g)
    (hg : w.heap[g]? = some (.cells (winchC cable vX vY vV charge lo hi L W S C false t) 107 (0, 0))) (s0 : 0 ≤ S) (s1 : S ≤ 1000000) (l0 : 0 ≤ L) (l1 : L ≤ 1000) (cab : cable ≤ 100) :
    Calls Try.prog 61 #[.pointer (some ⟨g, 0, none⟩), .agg #[.int .i64 1, .int .i64 n]] w (DoPost cable vX vY vV charge lo hi (doO cable X Y V charge lo hi ⟨L, W, S, C, false, t⟩ 1 n) g w) := by
  have hlt := blk_lt hg
  obtain ⟨⟨c0, c4⟩, ⟨c7, c8, c9, c10, c11, c12⟩, ⟨f7, f8, f9, f10, f11, f12⟩⟩ := winch_cells cable vX vY vV charge lo hi L W S C false t hg
  obtain ⟨g1, b1, z1, x0, x1⟩ := stepW_facts 1 n hg
  have G1 := Lib.hid g1
  have HW := Lib.hid hg
  obtain ⟨⟨d0, d4⟩, ⟨d7, d8, d9, d10, d11, d12⟩, -⟩ := winch_cells cable vX vY vV charge lo hi L W (S + 1) C false t g1
  have E1 := hB.trans (b1.mono hg0)
  have R1 := hR.below E1
  clear hg g1
  cases h1 : wi n 1 cable
  · have hd := Lib.hid (show doO cable X Y V charge lo hi ⟨L, W, S, C, false, t⟩ 1 n = none by simp [doO, h1])
    go_enter Try.func61, Try.ntmps61
    go_wp2_with fail
    change Code.wp _ _ _ _ (stepW g S 1 n w)
    have ug : g < (stepW g S 1 n w).heap.size := by omega
    have ub : w.heap.size < (stepW g S 1 n w).heap.size := by omega
    generalize stepW g S 1 n w = w1 at *
    clear c0 c4 c7 c8 c9 c10 c11 c12 f7 f8 f9 f10 f11 f12
    refine rg_all (by kernel_rfl) (by kernel_rfl) ?_
    repeat (go_big_quiet_step ((go_at_call 45; exact Calls.rg_same (within_is h1 _))))
    refine wpQuiet_nil ?_
    intro w2 hw2
    have F2 : Below g w1 w2 := (rg_below hw2).mono (by omega)
    clear hw2
    go_wp2_with fail
    go_ret
    exact ⟨by rw [hd.out]; rfl, b1.trans F2, fun s' h => by rw [hd.out] at h; cases h⟩
  · have hn := wi_iff'.1 h1
    have hd := Lib.hid (show doO cable X Y V charge lo hi ⟨L, W, S, C, false, t⟩ 1 n = if outB cable X Y V lo hi L W n then some ⟨L + n, W, S + 1, C, false, t⟩ else none by simp [doO, h1])
    obtain ⟨n0, n1⟩ := hn
    go_enter Try.func61, Try.ntmps61
    go_wp2_with fail
    change Code.wp _ _ _ _ (stepW g S 1 n w)
    have ug : g < (stepW g S 1 n w).heap.size := by omega
    have ub : w.heap.size < (stepW g S 1 n w).heap.size := by omega
    generalize stepW g S 1 n w = w1 at *
    clear c0 c4 c7 c8 c9 c10 c11 c12 f7 f8 f9 f10 f11 f12
    refine rg_tail 12 (by kernel_rfl) (by kernel_rfl) ?_
    simp only [List.take_succ_cons, List.take_zero, List.drop_succ_cons, List.drop_zero]
    repeat (go_big_quiet_step ((go_at_call 45; exact Calls.rg_same (within_is h1 _))))
    refine wpQuiet_nil ?_
    intro w2 hw2
    have F2 := rg_below hw2
    have R2 := R1.below F2
    have B2 : w2.heap[g]? = some (.cells (winchC cable vX vY vV charge lo hi L W (S + 1) C false t) 107 (0, 0)) := by rw [F2.block g ug]; exact G1.out
    clear hw2
    go_wp2_with fail
    refine (winch_out vX vY vV X Y V cable charge lo hi L W (S + 1) C false t n g _ R2 B2 l0 l1 (by omega) (by omega)).mono ?_
    rintro e w3 ⟨rfl, hb3, hg3⟩
    have Hg3 := Lib.hid hg3
    clear hg3
    go_wp2_with fail
    go_ret
    refine ⟨?_, (b1.trans (F2.mono (by omega))).trans hb3, fun s' h => ?_⟩
    · rw [hd.out]; cases outB cable X Y V lo hi L W n <;> rfl
    · rw [hd.out] at h
      cases ho : outB cable X Y V lo hi L W n
      · rw [ho] at h; simp at h
      · rw [ho] at h; simp at h; subst h
        have := Hg3.out; rw [ho] at this; exact this

set_option maxRecDepth 100000 in
set_option maxHeartbeats 6400000 in
theorem winch_do_2 (vX vY vV : Value) (X Y : List Int) (V : List (List Int)) (cable charge lo hi L W S C : Int) (t : Bool) (n : Int) (g : Nat) (w0 w : World) (hR : RT w0 vX vY vV X Y V) (hB : Below w0.heap.size w0 w) (hg0 : w0.heap.size ≤ g)
    (hg : w.heap[g]? = some (.cells (winchC cable vX vY vV charge lo hi L W S C false t) 107 (0, 0))) (s0 : 0 ≤ S) (s1 : S ≤ 1000000) (l0 : 0 ≤ L) (l1 : L ≤ 1000) (cab : cable ≤ 100) :
    Calls Try.prog 61 #[.pointer (some ⟨g, 0, none⟩), .agg #[.int .i64 2, .int .i64 n]] w (DoPost cable vX vY vV charge lo hi (doO cable X Y V charge lo hi ⟨L, W, S, C, false, t⟩ 2 n) g w) := by
  have hlt := blk_lt hg
  obtain ⟨⟨c0, c4⟩, ⟨c7, c8, c9, c10, c11, c12⟩, ⟨f7, f8, f9, f10, f11, f12⟩⟩ := winch_cells cable vX vY vV charge lo hi L W S C false t hg
  obtain ⟨g1, b1, z1, x0, x1⟩ := stepW_facts 2 n hg
  have G1 := Lib.hid g1
  have HW := Lib.hid hg
  obtain ⟨⟨d0, d4⟩, ⟨d7, d8, d9, d10, d11, d12⟩, -⟩ := winch_cells cable vX vY vV charge lo hi L W (S + 1) C false t g1
  have E1 := hB.trans (b1.mono hg0)
  have R1 := hR.below E1
  clear hg g1
  cases h1 : wi n 1 cable
  · have hd := Lib.hid (show doO cable X Y V charge lo hi ⟨L, W, S, C, false, t⟩ 2 n = none by simp [doO, h1])
    go_enter Try.func61, Try.ntmps61
    go_wp2_with fail
    change Code.wp _ _ _ _ (stepW g S 2 n w)
    have ug : g < (stepW g S 2 n w).heap.size := by omega
    have ub : w.heap.size < (stepW g S 2 n w).heap.size := by omega
    generalize stepW g S 2 n w = w1 at *
    clear c0 c4 c7 c8 c9 c10 c11 c12 f7 f8 f9 f10 f11 f12
    refine rg_all (by kernel_rfl) (by kernel_rfl) ?_
    repeat (go_big_quiet_step ((go_at_call 45; exact Calls.rg_same (within_is h1 _))))
    refine wpQuiet_nil ?_
    intro w2 hw2
    have F2 : Below g w1 w2 := (rg_below hw2).mono (by omega)
    clear hw2
    go_wp2_with fail
    go_ret
    exact ⟨by rw [hd.out]; rfl, b1.trans F2, fun s' h => by rw [hd.out] at h; cases h⟩
  · have hn := wi_iff'.1 h1
    have hd := Lib.hid (show doO cable X Y V charge lo hi ⟨L, W, S, C, false, t⟩ 2 n = if outB cable X Y V lo hi L W (-n) then some ⟨L + -n, W, S + 1, C, false, t⟩ else none by simp [doO, h1])
    obtain ⟨n0, n1⟩ := hn
    have nn : IntKind.i64.wrap (-n) = -n := IntWalk.i64_in _ (by omega)
    go_enter Try.func61, Try.ntmps61
    go_wp2_with fail
    change Code.wp _ _ _ _ (stepW g S 2 n w)
    have ug : g < (stepW g S 2 n w).heap.size := by omega
    have ub : w.heap.size < (stepW g S 2 n w).heap.size := by omega
    generalize stepW g S 2 n w = w1 at *
    clear c0 c4 c7 c8 c9 c10 c11 c12 f7 f8 f9 f10 f11 f12
    refine rg_tail 13 (by kernel_rfl) (by kernel_rfl) ?_
    simp only [List.take_succ_cons, List.take_zero, List.drop_succ_cons, List.drop_zero]
    repeat (go_big_quiet_step ((go_at_call 45; exact Calls.rg_same (within_is h1 _))))
    refine wpQuiet_nil ?_
    intro w2 hw2
    have F2 := rg_below hw2
    have R2 := R1.below F2
    have B2 : w2.heap[g]? = some (.cells (winchC cable vX vY vV charge lo hi L W (S + 1) C false t) 107 (0, 0)) := by rw [F2.block g ug]; exact G1.out
    clear hw2
    go_wp2_with fail
    refine (winch_out vX vY vV X Y V cable charge lo hi L W (S + 1) C false t (-n) g _ R2 B2 l0 l1 (by omega) (by omega)).mono ?_
    rintro e w3 ⟨rfl, hb3, hg3⟩
    have Hg3 := Lib.hid hg3
    clear hg3
    go_wp2_with fail
    go_ret
    refine ⟨?_, (b1.trans (F2.mono (by omega))).trans hb3, fun s' h => ?_⟩
    · rw [hd.out]; cases outB cable X Y V lo hi L W (-n) <;> rfl
    · rw [hd.out] at h
      cases ho : outB cable X Y V lo hi L W (-n)
      · rw [ho] at h; simp at h
      · rw [ho] at h; simp at h; subst h
        have := Hg3.out; rw [ho] at this; exact this

theorem carries_is {X Y : List Int} {V : List (List Int)} {lo hi L n : Int} {b : Bool} (h : carB X Y V lo hi L L n = b) (vX vY vV : Value) (cable charge W S C : Int) (cut t : Bool) (g : Nat) (w : World) (hR : RT w vX vY vV X Y V)
    (hg : w.heap[g]? = some (.cells (winchC cable vX vY vV charge lo hi L W S C cut t) 107 (0, 0))) :
    Calls Try.prog 50 #[.pointer (some ⟨g, 0, none⟩), .agg #[.int .i64 L, .int .i64 L], .int .i64 n] w (AllBelow (.bool b) w) := by
  have := winch_carries vX vY vV X Y V cable charge lo hi L W S C cut t L L n g w hR hg
  rw [h] at this; exact this

set_option maxRecDepth 100000 in
set_option maxHeartbeats 6400000 in
theorem winch_do_4 (vX vY vV : Value) (X Y : List Int) (V : List (List Int)) (cable charge lo hi L W S C : Int) (t : Bool) (n : Int) (g : Nat) (w0 w : World) (hR : RT w0 vX vY vV X Y V) (hB : Below w0.heap.size w0 w) (hg0 : w0.heap.size ≤ g)
    (hg : w.heap[g]? = some (.cells (winchC cable vX vY vV charge lo hi L W S C false t) 107 (0, 0))) (s0 : 0 ≤ S) (s1 : S ≤ 1000000) (l0 : 0 ≤ L) (l1 : L ≤ 1000) (cab : cable ≤ 100) :
    Calls Try.prog 61 #[.pointer (some ⟨g, 0, none⟩), .agg #[.int .i64 4, .int .i64 n]] w (DoPost cable vX vY vV charge lo hi (doO cable X Y V charge lo hi ⟨L, W, S, C, false, t⟩ 4 n) g w) := by
  have hlt := blk_lt hg
  obtain ⟨⟨c0, c4⟩, ⟨c7, c8, c9, c10, c11, c12⟩, ⟨f7, f8, f9, f10, f11, f12⟩⟩ := winch_cells cable vX vY vV charge lo hi L W S C false t hg
  obtain ⟨g1, b1, z1, x0, x1⟩ := stepW_facts 4 n hg
  have G1 := Lib.hid g1
  have HW := Lib.hid hg
  obtain ⟨⟨d0, d4⟩, ⟨d7, d8, d9, d10, d11, d12⟩, -⟩ := winch_cells cable vX vY vV charge lo hi L W (S + 1) C false t g1
  have E1 := hB.trans (b1.mono hg0)
  have R1 := hR.below E1
  have HS := Lib.hid (fun (W' : World) (hb : Below g w W') => hR.below (hB.trans (hb.mono hg0)))
  clear hg g1
  by_cases h1 : 0 < W
  · have e1 : decide (0 < W) = true := by simpa using h1
    have hd := Lib.hid (show doO cable X Y V charge lo hi ⟨L, W, S, C, false, t⟩ 4 n = none by simp [doO]; intro a; omega)
    clear h1
    go_enter Try.func61, Try.ntmps61
    go_wp2_with fail
    change Code.wp _ _ _ _ (stepW g S 4 n w)
    have ug : g < (stepW g S 4 n w).heap.size := by omega
    have ub : w.heap.size < (stepW g S 4 n w).heap.size := by omega
    generalize stepW g S 4 n w = w1 at *
    clear c0 c4 c7 c8 c9 c10 c11 c12 f7 f8 f9 f10 f11 f12
    refine rg_all (by kernel_rfl) (by kernel_rfl) ?_
    repeat (go_big_quiet_step (fail))
    refine wpQuiet_nil ?_
    intro w2 hw2
    have F2 : Below g w1 w2 := (rg_below hw2).mono (by omega)
    clear hw2
    go_wp2_with fail
    go_ret
    exact ⟨by rw [hd.out]; rfl, b1.trans F2, fun s' h => by rw [hd.out] at h; cases h⟩
  · have e1 : decide (0 < W) = false := by simpa using h1
    have hW : W ≤ 0 := by omega
    clear h1
    by_cases h2 : L = 0
    · have e2 : (L == 0) = true := by simpa using h2
      have hd := Lib.hid (show doO cable X Y V charge lo hi ⟨L, W, S, C, false, t⟩ 4 n = none by simp [doO]; intro _ a; omega)
      clear h2
      go_enter Try.func61, Try.ntmps61
      go_wp2_with fail
      change Code.wp _ _ _ _ (stepW g S 4 n w)
      have ug : g < (stepW g S 4 n w).heap.size := by omega
      have ub : w.heap.size < (stepW g S 4 n w).heap.size := by omega
      generalize stepW g S 4 n w = w1 at *
      clear c0 c4 c7 c8 c9 c10 c11 c12 f7 f8 f9 f10 f11 f12
      refine rg_all (by kernel_rfl) (by kernel_rfl) ?_
      repeat (go_big_quiet_step (fail))
      refine wpQuiet_nil ?_
      intro w2 hw2
      have F2 : Below g w1 w2 := (rg_below hw2).mono (by omega)
      clear hw2
      go_wp2_with fail
      go_ret
      exact ⟨by rw [hd.out]; rfl, b1.trans F2, fun s' h => by rw [hd.out] at h; cases h⟩
    · have e2 : (L == 0) = false := by simpa using h2
      have HL := Lib.hid h2
      clear h2
      cases t
      · have hd := Lib.hid (show doO cable X Y V charge lo hi ⟨L, W, S, C, false, false⟩ 4 n = none by simp [doO])
        go_enter Try.func61, Try.ntmps61
        go_wp2_with fail
        change Code.wp _ _ _ _ (stepW g S 4 n w)
        have ug : g < (stepW g S 4 n w).heap.size := by omega
        have ub : w.heap.size < (stepW g S 4 n w).heap.size := by omega
        generalize stepW g S 4 n w = w1 at *
        clear c0 c4 c7 c8 c9 c10 c11 c12 f7 f8 f9 f10 f11 f12
        refine rg_all (by kernel_rfl) (by kernel_rfl) ?_
        repeat (go_big_quiet_step (fail))
        refine wpQuiet_nil ?_
        intro w2 hw2
        have F2 : Below g w1 w2 := (rg_below hw2).mono (by omega)
        clear hw2
        go_wp2_with fail
        go_ret
        exact ⟨by rw [hd.out]; rfl, b1.trans F2, fun s' h => by rw [hd.out] at h; cases h⟩
      · by_cases h4 : charge < S + 1
        · have e4 : decide (charge < S + 1) = true := by simpa using h4
          have hd := Lib.hid (show doO cable X Y V charge lo hi ⟨L, W, S, C, false, true⟩ 4 n = none by simp [doO]; intro _ _ a; omega)
          clear h4
          go_enter Try.func61, Try.ntmps61
          go_wp2_with fail
          change Code.wp _ _ _ _ (stepW g S 4 n w)
          have ug : g < (stepW g S 4 n w).heap.size := by omega
          have ub : w.heap.size < (stepW g S 4 n w).heap.size := by omega
          generalize stepW g S 4 n w = w1 at *
          clear c0 c4 c7 c8 c9 c10 c11 c12 f7 f8 f9 f10 f11 f12
          refine rg_all (by kernel_rfl) (by kernel_rfl) ?_
          repeat (go_big_quiet_step (fail))
          refine wpQuiet_nil ?_
          intro w2 hw2
          have F2 : Below g w1 w2 := (rg_below hw2).mono (by omega)
          clear hw2
          go_wp2_with fail
          go_ret
          exact ⟨by rw [hd.out]; rfl, b1.trans F2, fun s' h => by rw [hd.out] at h; cases h⟩
        · have e4 : decide (charge < S + 1) = false := by simpa using h4
          have hS : S + 1 ≤ charge := by omega
          clear h4
          cases h5 : wi n 1 100000
          · have hd := Lib.hid (show doO cable X Y V charge lo hi ⟨L, W, S, C, false, true⟩ 4 n = none by simp [doO, h5])
            go_enter Try.func61, Try.ntmps61
            go_wp2_with fail
            change Code.wp _ _ _ _ (stepW g S 4 n w)
            have ug : g < (stepW g S 4 n w).heap.size := by omega
            have ub : w.heap.size < (stepW g S 4 n w).heap.size := by omega
            generalize stepW g S 4 n w = w1 at *
            clear c0 c4 c7 c8 c9 c10 c11 c12 f7 f8 f9 f10 f11 f12
            refine rg_all (by kernel_rfl) (by kernel_rfl) ?_
            repeat (go_big_quiet_step (((go_at_call 45; exact Calls.rg_same (within_is h5 _)))))
            refine wpQuiet_nil ?_
            intro w2 hw2
            have F2 : Below g w1 w2 := (rg_below hw2).mono (by omega)
            clear hw2
            go_wp2_with fail
            go_ret
            exact ⟨by rw [hd.out]; rfl, b1.trans F2, fun s' h => by rw [hd.out] at h; cases h⟩
          · cases h6 : carB X Y V lo hi L L n
            · have hd := Lib.hid (show doO cable X Y V charge lo hi ⟨L, W, S, C, false, true⟩ 4 n = none by simp [doO, h6])
              go_enter Try.func61, Try.ntmps61
              go_wp2_with fail
              change Code.wp _ _ _ _ (stepW g S 4 n w)
              have ug : g < (stepW g S 4 n w).heap.size := by omega
              have ub : w.heap.size < (stepW g S 4 n w).heap.size := by omega
              generalize stepW g S 4 n w = w1 at *
              clear c0 c4 c7 c8 c9 c10 c11 c12 f7 f8 f9 f10 f11 f12
              have HG := Lib.hid (fun (d : Nat) (os : Array Obj) => show (grow (redrawn w1 d) os).heap[g]? = some (.cells (winchC cable vX vY vV charge lo hi L W (S + 1) C false true) 107 (0, 0)) by rw [(below_regrown w1 d os).block g ug]; exact G1.out)
              refine rg_all (by kernel_rfl) (by kernel_rfl) ?_
              repeat (go_big_quiet_step (((first | (go_at_call 45; exact Calls.rg_same (within_is h5 _)) | (go_at_call 51; exact Calls.regrown_of (sling_at _ _)) | (go_at_call 50; exact Calls.regrown_of (carries_is h6 vX vY vV cable charge W (S + 1) C false true g _ (R1.below (below_regrown _ _ _)) (HG.out _ _)))))))
              refine wpQuiet_nil ?_
              intro w2 hw2
              have F2 : Below g w1 w2 := (rg_below hw2).mono (by omega)
              clear hw2
              go_wp2_with fail
              go_ret
              exact ⟨by rw [hd.out]; rfl, b1.trans F2, fun s' h => by rw [hd.out] at h; cases h⟩
            · have hd := Lib.hid (show doO cable X Y V charge lo hi ⟨L, W, S, C, false, true⟩ 4 n = some ⟨L, n, S + 1, C, false, true⟩ by simp [doO, h5, h6, hW, HL.out, hS])
              go_enter Try.func61, Try.ntmps61
              go_wp2_with fail
              change Code.wp _ _ _ _ (stepW g S 4 n w)
              have ug : g < (stepW g S 4 n w).heap.size := by omega
              have ub : w.heap.size < (stepW g S 4 n w).heap.size := by omega
              generalize stepW g S 4 n w = w1 at *
              clear c0 c4 c7 c8 c9 c10 c11 c12 f7 f8 f9 f10 f11 f12
              have HG := Lib.hid (fun (d : Nat) (os : Array Obj) => show (grow (redrawn w1 d) os).heap[g]? = some (.cells (winchC cable vX vY vV charge lo hi L W (S + 1) C false true) 107 (0, 0)) by rw [(below_regrown w1 d os).block g ug]; exact G1.out)
              refine rg_all (by kernel_rfl) (by kernel_rfl) ?_
              repeat (go_big_quiet_step (((first | (go_at_call 45; exact Calls.rg_same (within_is h5 _)) | (go_at_call 51; exact Calls.regrown_of (sling_at _ _)) | (go_at_call 50; exact Calls.regrown_of (carries_is h6 vX vY vV cable charge W (S + 1) C false true g _ (R1.below (below_regrown _ _ _)) (HG.out _ _)))))))
              refine wpQuiet_nil ?_
              intro w2 hw2
              have F2 : Below g w1 w2 := (rg_below hw2).mono (by omega)
              have z2 := (rg_below hw2).size
              have x1' : w2.cell? ⟨w.heap.size, 1, none⟩ = some (.int .i64 n) := ((rg_below hw2).cell (p := ⟨w.heap.size, 1, none⟩) ub).trans x1
              have g2 : w2.heap[g]? = some (.cells (winchC cable vX vY vV charge lo hi L W (S + 1) C false true) 107 (0, 0)) := ((rg_below hw2).block g ug).trans G1.out
              have G2 := Lib.hid g2
              obtain ⟨-, ⟨-, d8', -⟩, ⟨-, f8', -⟩⟩ := winch_cells cable vX vY vV charge lo hi L W (S + 1) C false true g2
              clear g2
              clear hw2
              go_wp2_with fail
              go_ret
              exact ⟨by rw [hd.out]; rfl, (b1.trans F2).setCell (Nat.le_refl _) _, fun s' h => by rw [hd.out] at h; cases h; exact heap_setCell_at G2.out _⟩

end Go.Proofs.Ytliddinpfgpnfaa
