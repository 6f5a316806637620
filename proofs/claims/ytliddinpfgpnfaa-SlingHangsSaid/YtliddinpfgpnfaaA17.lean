/- Contracts: a span of one number; whether a winch carries a weight. -/
import Derived.Test.YtliddinpfgpnfaaA16
import Derived.Deep.RegionWith
namespace Go.Proofs.Ytliddinpfgpnfaa
open Go Go.RowKit Go.Sort
set_option linter.unusedSimpArgs false
set_option linter.unusedVariables false

theorem sling_at (n : Int) (w : World) : Calls Try.prog 51 #[.int .i64 n] w (AllBelow (.agg #[.int .i64 n, .int .i64 n]) w) := by
  go_enter Try.func51, Try.ntmps51
  go_wp2
  refine bodyPost_ret (v := .agg #[.int .i64 n, .int .i64 n]) (by simp [results, Try.results51, go_sem]) rfl ⟨rfl, ?_⟩
  exact (((Below.refl _ _).alloc (Nat.le_refl _) _))

/-- Whether a weight is carried at the lengths of a span. -/
def carB (X Y : List Int) (V : List (List Int)) (lo hi n1 n2 weight : Int) : Bool :=
  decide (weight = 0) || (decide (pointsE X Y V n1 n2 lo hi = 0) && decide (weight ≤ lowB X Y V n1 n2 lo hi))

set_option maxRecDepth 100000 in
set_option maxHeartbeats 6400000 in
theorem winch_carries (vX vY vV : Value) (X Y : List Int) (V : List (List Int)) (cable charge lo hi length we since cycles : Int) (cut touched : Bool) (n1 n2 weight : Int) (g : Nat) (w : World) (hR : RT w vX vY vV X Y V)
    (hg : w.heap[g]? = some (.cells (winchC cable vX vY vV charge lo hi length we since cycles cut touched) 107 (0, 0))) :
    Calls Try.prog 50 #[.pointer (some ⟨g, 0, none⟩), .agg #[.int .i64 n1, .int .i64 n2], .int .i64 weight] w (AllBelow (.bool (carB X Y V lo hi n1 n2 weight)) w) := by
  have gz : g < w.heap.size := by rcases Nat.lt_or_ge g w.heap.size with q | q; exact q; rw [Array.getElem?_eq_none q] at hg; cases hg
  have B1 := (Below.refl w.heap.size w).alloc (Nat.le_refl _) (.cells #[.int .i64 n1, .int .i64 n2] 27)
  have c1 := (blk_cells hg 1)
  have c2 := (blk_cells hg 2)
  have c3 := (blk_cells hg 3)
  have c5 := (blk_cells hg 5)
  have c6 := (blk_cells hg 6)
  simp [winchC] at c1 c2 c3 c5 c6
  obtain ⟨c1, f1⟩ := c1
  obtain ⟨c2, f2⟩ := c2
  obtain ⟨c3, f3⟩ := c3
  obtain ⟨c5, f5⟩ := c5
  obtain ⟨c6, f6⟩ := c6
  by_cases hw : weight = 0
  · subst hw
    go_enter Try.func50, Try.ntmps50
    go_wp2
    go_ret
    exact ⟨by simp [carB], B1⟩
  · have hw2 : (weight == 0) = false := by simpa using hw
    have hW := Lib.hid hw
    obtain ⟨L, H, e0, hBV, hE⟩ : ∃ L H e0 : Int, BoundV X Y V n1 n2 lo hi = .tuple #[.agg #[.int .i64 L, .int .i64 H], .int .i64 e0] ∧ carB X Y V lo hi n1 n2 weight = (decide (e0 = 0) && decide (weight ≤ L)) := by
      by_cases hp : pointsE X Y V n1 n2 lo hi = 0
      · exact ⟨_, _, 0, by rw [BoundV, if_pos hp], by simp [carB, hp, hw]⟩
      · exact ⟨_, _, _, by rw [BoundV, if_neg hp], by simp [carB, hp, hw]⟩
    have HB := fun (W : World) (hW : RT W vX vY vV X Y V) => spans_Bound vX vY vV X Y V n1 n2 lo hi W hW
    rw [hBV] at HB
    rw [hE]
    clear hw hE hBV
    go_enter Try.func50, Try.ntmps50
    go_wp2_with fail
    have E0 := B1.drew
    have E1 := (B1.alloc (by simp) (.cells #[.int .i64 0, .int .i64 0] 27)).drew
    go_region_with (go_at_call 28; (first | refine (HB _ (hR.below E0)).mono ?_ | refine (HB _ (hR.below E1)).mono ?_); rintro e w1 ⟨rfl, hb1⟩; obtain ⟨hc1, hf1, hs1⟩ := bcell hb1)
    all_goals
      have s1 := hb1.size
      simp at s1
      by_cases he : e0 = 0
      all_goals
        have he2 := (show (e0 == 0) = decide (e0 = 0) from rfl)
        simp only [he, decide_true, decide_false] at he2
        go_wp2
        go_ret
        refine ⟨by simp [he], ?_⟩
        first
          | exact (E0.trans (hb1.mono E0.size)).alloc (Nat.le_trans E0.size hb1.size) _
          | exact ((E1.trans (hb1.mono E1.size)).setCell (Nat.le_succ _) _).setCell (Nat.le_succ _) _

end Go.Proofs.Ytliddinpfgpnfaa
