/- Contracts of the specification: Bound, what a hoist bears, the errors of a hoist and of winds. -/
import Derived.Test.YtliddinpfgpnfaaR6
import Derived.Test.YtliddinpfgpnfaaA19
namespace Go.Proofs.Ytliddinpfgpnfaa
open Go Go.RowKit Go.Sort
set_option linter.unusedSimpArgs false
set_option linter.unusedVariables false

theorem flR_eq {X Y : List Int} {V : List (List Int)} (hE : tableE X Y V = 0) {g : Int × Int} (h : OnT X Y g) : flR X Y V g = flo X Y V g.1 g.2 :=
  ((at_cross V (tableE_zero hE).1 (tableE_zero hE).2.1 (InC.cellR (tableE_zero hE).1 h.x0 h.x1) (InC.cellR (tableE_zero hE).2.1 h.y0 h.y1)).1).symm

theorem mnI_facts (a b : Int) : mnI a b ≤ a ∧ mnI a b ≤ b ∧ (mnI a b = a ∨ mnI a b = b) := by unfold mnI; split <;> omega

theorem lowG_facts {X Y : List Int} {V : List (List Int)} (l : List (Int × Int)) : ∀ a, lowG X Y V a l ≤ a ∧ (∀ g ∈ l, lowG X Y V a l ≤ flR X Y V g) ∧ (lowG X Y V a l = a ∨ ∃ g ∈ l, lowG X Y V a l = flR X Y V g) := by
  induction l with
  | nil => intro a; exact ⟨Int.le_refl _, fun g hg => by simp at hg, Or.inl rfl⟩
  | cons p l ih =>
    intro a
    obtain ⟨h1, h2, h3⟩ := ih (mnI a (flR X Y V p))
    obtain ⟨m1, m2, m3⟩ := mnI_facts a (flR X Y V p)
    have e : lowG X Y V a (p :: l) = lowG X Y V (mnI a (flR X Y V p)) l := rfl
    rw [e]
    refine ⟨by omega, fun g hg => ?_, ?_⟩
    · rcases List.mem_cons.1 hg with rfl | hg
      · omega
      · exact h2 g hg
    · rcases h3 with h3 | ⟨g, hg, h3⟩
      · rcases m3 with m3 | m3
        · left; omega
        · right; exact ⟨p, List.mem_cons_self .., by omega⟩
      · right; exact ⟨g, List.mem_cons_of_mem _ hg, h3⟩

/-- The specification's least is the program's. -/
theorem lowG_eq {X Y : List Int} {V : List (List Int)} (hE : tableE X Y V = 0) {xl xh yl yh : Int} (hlx : liesB X xl xh = true) (hly : liesB Y yl yh = true) (hx : xl ≤ xh) (hy : yl ≤ yh) :
    lowG X Y V (flR X Y V (xl, yl)) (grid (stopsL X xl xh) (stopsL Y yl yh)) = lowB X Y V xl xh yl yh := by
  have hon := grid_on hlx hly hx hy
  obtain ⟨⟨q, hq, e1⟩, h2⟩ := lowB_facts hE hlx hly hx hy
  obtain ⟨g1, g2, g3⟩ := lowG_facts (X := X) (Y := Y) (V := V) (grid (stopsL X xl xh) (stopsL Y yl yh)) (flR X Y V (xl, yl))
  have m0 : (xl, yl) ∈ grid (stopsL X xl xh) (stopsL Y yl yh) := mem_grid.2 ⟨by simp [stopsL], by simp [stopsL]⟩
  refine Int.le_antisymm ?_ ?_
  · have := g2 q hq; rw [flR_eq hE (hon q hq)] at this; omega
  · rcases g3 with g3 | ⟨g, hg, g3⟩
    · rw [g3, flR_eq hE (hon _ m0)]; exact h2 _ m0
    · rw [g3, flR_eq hE (hon _ hg)]; exact h2 _ hg

/-- What Bound of the specification answers. -/
def refBoundV (X Y : List Int) (V : List (List Int)) (xl xh yl yh : Int) : Int × Int × Int :=
  if pointsE X Y V xl xh yl yh = 0 then (lowB X Y V xl xh yl yh, hiG X Y V (upR X Y V (xl, yl)) (grid (stopsL X xl xh) (stopsL Y yl yh)), 0) else (0, 0, pointsE X Y V xl xh yl yh)

theorem res_block {w wr : World} {vX vY vV : Value} {xl xh yl yh : Int} (hb : Below (w.heap.size + 1 + 1 + 1 + 1) (bdW vX vY vV xl xh yl yh w) wr) :
    wr.heap[w.heap.size + 1 + 1 + 1]? = some (.cells #[.int .i64 0, .int .i64 0] 27 (0, 0)) := by
  rw [hb.block _ (by omega)]
  rw [show w.heap.size + 1 + 1 + 1 = (((w.alloc (.cells #[vX, vY, vV] 40)).alloc (.cells #[.int .i64 xl, .int .i64 xh] 27)).alloc (.cells #[.int .i64 yl, .int .i64 yh] 27)).heap.size by simp]
  exact heap_alloc_new _ _

set_option maxRecDepth 100000 in
set_option maxHeartbeats 3200000 in
theorem ref_Bound (vX vY vV : Value) (X Y : List Int) (V : List (List Int)) (xl xh yl yh : Int) (w : World) (hR : RT w vX vY vV X Y V) :
    Calls Try.prog 80 #[.agg #[vX, vY, vV], .agg #[.int .i64 xl, .int .i64 xh], .agg #[.int .i64 yl, .int .i64 yh]] w
      (AllBelow (.tuple #[.agg #[.int .i64 (refBoundV X Y V xl xh yl yh).1, .int .i64 (refBoundV X Y V xl xh yl yh).2.1], .int .i64 (refBoundV X Y V xl xh yl yh).2.2]) w) := by
  have B4 := bdW_below vX vY vV xl xh yl yh w
  have z4 : (bdW vX vY vV xl xh yl yh w).heap.size = w.heap.size + 1 + 1 + 1 + 1 := by simp
  by_cases hp : pointsE X Y V xl xh yl yh = 0
  · have hpb : (pointsE X Y V xl xh yl yh != 0) = false := by simp [hp]
    obtain ⟨hE, hx, hy, hlx, hly, -, -⟩ := pointsE_zero hp
    have HL := Lib.hid (lowG_eq hE hlx hly hx hy)
    have HBd := Lib.hid (fun (W : World) (hb : Below w.heap.size w W) => ref_bound vX vY vV X Y V xl xh yl yh W (hR.below hb) hE hx hy hlx hly)
    have Hp := Lib.hid hp
    clear hp hE hx hy hlx hly
    go_enter Try.func80, Try.ntmps80
    go_wp2_with fail
    refine (ref_CheckBound vX vY vV X Y V xl xh yl yh _ (hR.below B4)).mono ?_
    rintro e w1 ⟨rfl, hb⟩
    rw [Hp.out]
    have E1 := B4.trans (hb.mono (by rw [z4]; omega))
    rw [z4] at hb
    obtain ⟨⟨q0, q1, q2⟩, ⟨q3, q4⟩, ⟨q5, q6⟩, q7⟩ := box2224 (hb.mono (by omega))
    go_wp2_with fail
    refine (HBd.out _ E1).mono ?_
    rintro e w2 ⟨rfl, hb2⟩
    have E2 := E1.trans (hb2.mono E1.size)
    have G2 := hb.trans (hb2.mono (by omega))
    have r0 := res_block G2
    have t0 := (blk_cells r0 0).1
    have t1 := (blk_cells r0 1).1
    have f0 := (blk_cells r0 0).2
    have f1 := (blk_cells r0 1).2
    simp only [Array.getElem?_eq_getElem, List.size_toArray, List.length_cons, List.length_nil, Nat.reduceAdd, Nat.reduceLT, List.getElem_toArray, List.getElem_cons_zero, List.getElem_cons_succ] at t0 t1
    have zr := hb2.size
    have uR : w.heap.size + 1 + 1 + 1 < w2.heap.size := by omega
    clear r0 q0 q1 q2 q3 q4 q5 q6 hb hb2
    go_wp2_with fail
    refine bodyPost_ret (v := .tuple #[.agg #[.int .i64 (lowG X Y V (flR X Y V (xl, yl)) (grid (stopsL X xl xh) (stopsL Y yl yh))), .int .i64 (hiG X Y V (upR X Y V (xl, yl)) (grid (stopsL X xl xh) (stopsL Y yl yh)))], .int .i64 0]) (by simp [results, Try.results80, go_sem, t0, t1, uR]) rfl ⟨?_, ?_⟩
    · rw [refBoundV, if_pos Hp.out, HL.out]
    · exact (E2.setCell (by dsimp only; omega) _).setCell (by dsimp only; omega) _
  · have hpb : (pointsE X Y V xl xh yl yh != 0) = true := by simpa using hp
    have Hp := Lib.hid hp
    clear hp
    go_enter Try.func80, Try.ntmps80
    go_wp2_with fail
    refine (ref_CheckBound vX vY vV X Y V xl xh yl yh _ (hR.below B4)).mono ?_
    rintro e w1 ⟨rfl, hb⟩
    have E1 := B4.trans (hb.mono (by rw [z4]; omega))
    rw [z4] at hb
    have r0 := res_block hb
    have t0 := (blk_cells r0 0).1
    have t1 := (blk_cells r0 1).1
    have f0 := (blk_cells r0 0).2
    have f1 := (blk_cells r0 1).2
    simp only [Array.getElem?_eq_getElem, List.size_toArray, List.length_cons, List.length_nil, Nat.reduceAdd, Nat.reduceLT, List.getElem_toArray, List.getElem_cons_zero, List.getElem_cons_succ] at t0 t1
    have zr := hb.size
    have uR : w.heap.size + 1 + 1 + 1 < w1.heap.size := by omega
    clear r0 hb
    go_wp2_with fail
    refine bodyPost_ret (v := .tuple #[.agg #[.int .i64 0, .int .i64 0], .int .i64 (pointsE X Y V xl xh yl yh)]) (by simp [results, Try.results80, go_sem, t0, t1, uR]) rfl ⟨?_, ?_⟩
    · rw [refBoundV, if_neg Hp.out]
    · exact (E1.setCell (by dsimp only; omega) _).setCell (by dsimp only; omega) _

abbrev hoW (cable : Int) (vX vY vV : Value) (charge lo hi : Int) (w : World) : World :=
  (w.alloc (.cells #[.int .i64 cable, vX, vY, vV, .int .i64 charge] 42)).alloc (.cells #[.int .i64 lo, .int .i64 hi] 27)

theorem hoW_below (cable : Int) (vX vY vV : Value) (charge lo hi : Int) (w : World) : Below w.heap.size w (hoW cable vX vY vV charge lo hi w) :=
  ((Below.refl _ _).alloc (Nat.le_refl _) _).alloc (by simp) _

theorem box52 {w wr : World} {cable : Int} {vX vY vV : Value} {charge lo hi : Int} (hb : Below (w.heap.size + 1 + 1) (hoW cable vX vY vV charge lo hi w) wr) :
    (wr.cell? ⟨w.heap.size, 0, none⟩ = some (.int .i64 cable) ∧ wr.cell? ⟨w.heap.size, 1, none⟩ = some vX ∧ wr.cell? ⟨w.heap.size, 2, none⟩ = some vY ∧ wr.cell? ⟨w.heap.size, 3, none⟩ = some vV ∧ wr.cell? ⟨w.heap.size, 4, none⟩ = some (.int .i64 charge)) ∧
    (wr.cell? ⟨w.heap.size + 1, 0, none⟩ = some (.int .i64 lo) ∧ wr.cell? ⟨w.heap.size + 1, 1, none⟩ = some (.int .i64 hi)) ∧ w.heap.size + 2 ≤ wr.heap.size := by
  have h0 : wr.heap[w.heap.size]? = some (.cells #[.int .i64 cable, vX, vY, vV, .int .i64 charge] 42 (0, 0)) := by rw [hb.block _ (by omega)]; exact heap_alloc_old (heap_alloc_new _ _)
  have h1 : wr.heap[w.heap.size + 1]? = some (.cells #[.int .i64 lo, .int .i64 hi] 27 (0, 0)) := by
    rw [hb.block _ (by omega)]
    rw [show w.heap.size + 1 = (w.alloc (.cells #[.int .i64 cable, vX, vY, vV, .int .i64 charge] 42)).heap.size by simp]
    exact heap_alloc_new _ _
  refine ⟨⟨by rw [(blk_cells h0 0).1]; rfl, by rw [(blk_cells h0 1).1]; rfl, by rw [(blk_cells h0 2).1]; rfl, by rw [(blk_cells h0 3).1]; rfl, by rw [(blk_cells h0 4).1]; rfl⟩, ⟨by rw [(blk_cells h1 0).1]; rfl, by rw [(blk_cells h1 1).1]; rfl⟩, ?_⟩
  have := hb.size
  simp at this
  omega

/-- What bears answers. -/
def bearB (X Y : List Int) (V : List (List Int)) (lo hi n weight : Int) : Bool := decide (weight ≤ (refBoundV X Y V n n lo hi).1)

set_option maxRecDepth 100000 in
set_option maxHeartbeats 3200000 in
theorem ref_bears (vX vY vV : Value) (X Y : List Int) (V : List (List Int)) (cable charge lo hi n weight : Int) (w : World) (hR : RT w vX vY vV X Y V) :
    Calls Try.prog 52 #[.agg #[.int .i64 cable, vX, vY, vV, .int .i64 charge], .agg #[.int .i64 lo, .int .i64 hi], .int .i64 n, .int .i64 weight] w (AllBelow (.bool (bearB X Y V lo hi n weight)) w) := by
  have B2 := hoW_below cable vX vY vV charge lo hi w
  have z2 : (hoW cable vX vY vV charge lo hi w).heap.size = w.heap.size + 1 + 1 := by simp
  have HB := Lib.hid (show bearB X Y V lo hi n weight = decide (weight ≤ (refBoundV X Y V n n lo hi).1) from rfl)
  go_enter Try.func52, Try.ntmps52
  go_wp2_with fail
  refine (ref_Bound vX vY vV X Y V n n lo hi _ (hR.below B2)).mono ?_
  rintro e w1 ⟨rfl, hb⟩
  have E1 := B2.trans (hb.mono (by rw [z2]; omega))
  clear hb
  go_wp2_with fail
  go_ret
  exact ⟨ret_bool HB.out.symm, E1.alloc E1.size _⟩

set_option maxRecDepth 100000 in
set_option maxHeartbeats 3200000 in
theorem ref_CheckHoist (cable charge : Int) (vX vY vV : Value) (X Y : List Int) (V : List (List Int)) (w : World) (hR : RT w vX vY vV X Y V) :
    Calls Try.prog 24 #[.agg #[.int .i64 cable, vX, vY, vV, .int .i64 charge]] w (AllBelow (.int .i64 (hoistE cable X Y V charge)) w) := by
  have B1 : Below w.heap.size w (w.alloc (.cells #[.int .i64 cable, vX, vY, vV, .int .i64 charge] 42)) := (Below.refl _ _).alloc (Nat.le_refl _) _
  have z1 : (w.alloc (.cells #[.int .i64 cable, vX, vY, vV, .int .i64 charge] 42)).heap.size = w.heap.size + 1 := by simp
  have hlx := hR.lx
  cases h1 : wi cable 1 100
  · go_enter Try.func24, Try.ntmps24
    go_wp2_with (go_at_call 48; refine (ref_within _ _ _ _).mono ?_; rintro e w' ⟨rfl, rfl⟩)
    go_ret
    exact ⟨ret_int (by simp [hoistE, h1]), B1⟩
  · cases h2 : wi charge 0 100
    · go_enter Try.func24, Try.ntmps24
      go_wp2_with (go_at_call 48; refine (ref_within _ _ _ _).mono ?_; rintro e w' ⟨rfl, rfl⟩)
      go_ret
      exact ⟨ret_int (by simp [hoistE, h2]), B1⟩
    · by_cases h3 : tableE X Y V = 0
      · obtain ⟨a1, -, -, -⟩ := tableE_zero h3
        have hx0 := (axB_len a1).1
        obtain ⟨b, o, c, rfl, hb, hc0, hc1⟩ := hR.x.ends (by omega)
        have hn1 : (0 : Int) < (X.length : Int) := by omega
        have hn2 : IntKind.i64.wrap ((X.length : Int) - 1) = (X.length : Int) - 1 := IntWalk.i64_in _ (by omega)
        have hn3 : ((X.length : Int) - 1).toNat = X.length - 1 := by omega
        have hn4 : (0 : Int) ≤ (X.length : Int) - 1 := by omega
        have hn5 : (X.length : Int) - 1 < (X.length : Int) := by omega
        have H3 := Lib.hid h3
        clear a1 h3
        cases h4 : decide (0 < hd X)
        · cases h5 : decide (la X < cable)
          all_goals
            go_enter Try.func24, Try.ntmps24
            go_wp2_with (go_at_call 48; refine (ref_within _ _ _ _).mono ?_; rintro e w' ⟨rfl, rfl⟩)
            refine (ref_CheckTable _ vY vV X Y V _ (hR.below B1)).mono ?_
            rintro e w1 ⟨rfl, hb1⟩
            rw [H3.out]
            have E1 := B1.trans (hb1.mono (by rw [z1]; omega))
            obtain ⟨hc, hf, hs⟩ := bcell hb1
            have u1 : w.heap.size < w1.heap.size := by rw [z1] at hs; omega
            have u2 : b < w1.heap.size := by omega
            have u3 : b < w.heap.size + 1 := by omega
            clear hb1
            go_wp2_with fail
            refine rg_all (by kernel_rfl) (by kernel_rfl) ?_
            repeat (go_big_quiet_step (fail))
            refine wpQuiet_nil ?_
            intro w2 hw2
            have E2 := E1.trans ((rg_below hw2).mono E1.size)
            clear hw2 hn2
            go_wp2_with fail
            go_ret
            simp only [decide_eq_false_iff_not, decide_eq_true_eq] at h4 h5
            exact ⟨ret_int (by simp [hoistE, h1, h2, H3.out]; omega), E2⟩
        · go_enter Try.func24, Try.ntmps24
          go_wp2_with (go_at_call 48; refine (ref_within _ _ _ _).mono ?_; rintro e w' ⟨rfl, rfl⟩)
          refine (ref_CheckTable _ vY vV X Y V _ (hR.below B1)).mono ?_
          rintro e w1 ⟨rfl, hb1⟩
          rw [H3.out]
          have E1 := B1.trans (hb1.mono (by rw [z1]; omega))
          obtain ⟨hc, hf, hs⟩ := bcell hb1
          have u1 : w.heap.size < w1.heap.size := by rw [z1] at hs; omega
          have u2 : b < w1.heap.size := by omega
          have u3 : b < w.heap.size + 1 := by omega
          clear hb1
          go_wp2_with fail
          refine rg_all (by kernel_rfl) (by kernel_rfl) ?_
          repeat (go_big_quiet_step (fail))
          refine wpQuiet_nil ?_
          intro w2 hw2
          have E2 := E1.trans ((rg_below hw2).mono E1.size)
          clear hw2 hn2
          go_wp2_with fail
          go_ret
          simp only [decide_eq_true_eq] at h4
          exact ⟨ret_int (by simp [hoistE, h1, h2, H3.out]; omega), E2⟩
      · have h3b : (tableE X Y V != 0) = true := by simpa using h3
        have H3 := Lib.hid h3
        clear h3
        go_enter Try.func24, Try.ntmps24
        go_wp2_with (go_at_call 48; refine (ref_within _ _ _ _).mono ?_; rintro e w' ⟨rfl, rfl⟩)
        refine (ref_CheckTable vX vY vV X Y V _ (hR.below B1)).mono ?_
        rintro e w1 ⟨rfl, hb1⟩
        have E1 := B1.trans (hb1.mono (by rw [z1]; omega))
        go_wp2_with fail
        go_ret
        exact ⟨ret_int (by simp [hoistE, H3.out]), E1⟩

/-- The errors of a hoist and winds, as the specification tells them. -/
def windsE (cable : Int) (X Y : List Int) (V : List (List Int)) (charge lo hi : Int) : Int :=
  if hoistE cable X Y V charge ≠ 0 then hoistE cable X Y V charge else if vs lo hi then if liesB Y lo hi then 0 else 1 else 10

set_option maxRecDepth 100000 in
set_option maxHeartbeats 3200000 in
theorem ref_CheckWinds (cable charge lo hi : Int) (vX vY vV : Value) (X Y : List Int) (V : List (List Int)) (w : World) (hR : RT w vX vY vV X Y V) :
    Calls Try.prog 21 #[.agg #[.int .i64 cable, vX, vY, vV, .int .i64 charge], .agg #[.int .i64 lo, .int .i64 hi]] w (AllBelow (.int .i64 (windsE cable X Y V charge lo hi)) w) := by
  have B2 := hoW_below cable vX vY vV charge lo hi w
  have z2 : (hoW cable vX vY vV charge lo hi w).heap.size = w.heap.size + 1 + 1 := by simp
  by_cases h1 : hoistE cable X Y V charge = 0
  · have hy0 := (axB_len (tableE_zero (hoistE_zero h1).2.2.1).2.1).1
    have H1 := Lib.hid h1
    clear h1
    cases h2 : vs lo hi
    · go_enter Try.func21, Try.ntmps21
      go_wp2_with fail
      refine (ref_CheckHoist cable charge vX vY vV X Y V _ (hR.below B2)).mono ?_
      rintro e w1 ⟨rfl, hb⟩
      rw [H1.out]
      have E1 := B2.trans (hb.mono (by rw [z2]; omega))
      rw [z2] at hb
      obtain ⟨⟨q0, q1, q2, q3, q4⟩, ⟨q5, q6⟩, q7⟩ := box52 hb
      go_wp2_with fail
      refine (ref_Valid lo hi _).mono ?_
      rintro e w2 ⟨rfl, hb2⟩
      rw [h2]
      have E2 := E1.trans (hb2.mono E1.size)
      go_wp2_with fail
      go_ret
      exact ⟨ret_int (by simp [windsE, H1.out, h2]), E2⟩
    · cases h3 : liesB Y lo hi
      all_goals
        go_enter Try.func21, Try.ntmps21
        go_wp2_with fail
        refine (ref_CheckHoist cable charge vX vY vV X Y V _ (hR.below B2)).mono ?_
        rintro e w1 ⟨rfl, hb⟩
        rw [H1.out]
        have E1 := B2.trans (hb.mono (by rw [z2]; omega))
        rw [z2] at hb
        obtain ⟨⟨q0, q1, q2, q3, q4⟩, ⟨q5, q6⟩, q7⟩ := box52 hb
        go_wp2_with fail
        refine (ref_Valid lo hi _).mono ?_
        rintro e w2 ⟨rfl, hb2⟩
        rw [h2]
        have E2 := E1.trans (hb2.mono E1.size)
        have G2 := hb.trans (hb2.mono (by omega))
        clear q0 q1 q2 q3 q4 q5 q6 hb hb2
        obtain ⟨⟨q0, q1, q2, q3, q4⟩, ⟨q5, q6⟩, q7⟩ := box52 G2
        go_wp2_with fail
        refine (ref_Between vY Y lo hi _ (hR.y.below E2) (by omega) hR.ly).mono ?_
        rintro e w3 ⟨rfl, hb3⟩
        rw [h3]
        have E3 := E2.trans (hb3.mono E2.size)
        go_wp2_with fail
        go_ret
        exact ⟨ret_int (by simp [windsE, H1.out, h2, h3]), E3⟩
  · have h1b : (hoistE cable X Y V charge != 0) = true := by simpa using h1
    have H1 := Lib.hid h1
    clear h1
    go_enter Try.func21, Try.ntmps21
    go_wp2_with fail
    refine (ref_CheckHoist cable charge vX vY vV X Y V _ (hR.below B2)).mono ?_
    rintro e w1 ⟨rfl, hb⟩
    have E1 := B2.trans (hb.mono (by rw [z2]; omega))
    go_wp2_with fail
    go_ret
    exact ⟨ret_int (by rw [windsE, if_pos H1.out]), E1⟩

end Go.Proofs.Ytliddinpfgpnfaa
