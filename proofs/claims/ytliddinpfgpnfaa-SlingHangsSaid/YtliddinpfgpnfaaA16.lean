/- Contract: Bound. -/
import Derived.Test.YtliddinpfgpnfaaA15
namespace Go.Proofs.Ytliddinpfgpnfaa
open Go Go.RowKit Go.Sort
set_option linter.unusedSimpArgs false
set_option linter.unusedVariables false

/-- The ends of Bound. -/
def lowB (X Y : List Int) (V : List (List Int)) (xl xh yl yh : Int) : Int :=
  match leastO X Y V (grid (stopsL X xl xh) (stopsL Y yl yh)) with | some q => atN X Y V q.1 q.2 / atD X Y q.1 q.2 | none => 0
def highB (X Y : List Int) (V : List (List Int)) (xl xh yl yh : Int) : Int :=
  match mostO X Y V (grid (stopsL X xl xh) (stopsL Y yl yh)) with | some q => upV (atN X Y V q.1 q.2) (atD X Y q.1 q.2) | none => 0

def BoundV (X Y : List Int) (V : List (List Int)) (xl xh yl yh : Int) : Value :=
  if pointsE X Y V xl xh yl yh = 0 then .tuple #[.agg #[.int .i64 (lowB X Y V xl xh yl yh), .int .i64 (highB X Y V xl xh yl yh)], .int .i64 0]
  else .tuple #[.agg #[.int .i64 0, .int .i64 0], .int .i64 (pointsE X Y V xl xh yl yh)]

theorem pointsE_zero {X Y : List Int} {V : List (List Int)} {xl xh yl yh : Int} (h : pointsE X Y V xl xh yl yh = 0) : tableE X Y V = 0 ∧ xl ≤ xh ∧ yl ≤ yh ∧ liesB X xl xh = true ∧ liesB Y yl yh = true ∧ vs xl xh = true ∧ vs yl yh = true := by
  unfold pointsE at h
  split at h
  · rename_i h1
    split at h
    · rename_i h2
      split at h
      · rename_i h3
        simp only [Bool.and_eq_true] at h3
        have h4 : anyBadS [(xl, xh), (yl, yh)] = false := by
          unfold spannedE at h2; split at h2
          · omega
          · rename_i h9; simpa using h9
        simp only [anyBadS, List.any_cons, List.any_nil, badS, Bool.or_false, Bool.or_eq_false_iff, Bool.not_eq_false'] at h4
        have h5 := h4.1
        have h6 := h4.2
        simp only [vs, wi, Bool.and_eq_true, decide_eq_true_eq] at h5 h6
        exact ⟨h1, by omega, by omega, h3.1, h3.2, h4.1, h4.2⟩
      · omega
    · omega
  · omega

set_option maxRecDepth 100000 in
set_option maxHeartbeats 6400000 in
theorem spans_Bound (vX vY vV : Value) (X Y : List Int) (V : List (List Int)) (xl xh yl yh : Int) (w : World) (hR : RT w vX vY vV X Y V) :
    Calls Try.prog 28 #[.agg #[vX, vY, vV], .agg #[.int .i64 xl, .int .i64 xh], .agg #[.int .i64 yl, .int .i64 yh]] w (AllBelow (BoundV X Y V xl xh yl yh) w) := by
  have B4 : Below w.heap.size w ((((w.alloc (.cells #[vX, vY, vV] 40)).alloc (.cells #[.int .i64 xl, .int .i64 xh] 27)).alloc (.cells #[.int .i64 yl, .int .i64 yh] 27)).alloc (.cells #[.int .i64 0, .int .i64 0] 27)) :=
    Below.alloc (Below.alloc (Below.alloc (Below.alloc (Below.refl _ _) (Nat.le_refl _) _) (by simp) _) (by simp; omega) _) (by simp; omega) _
  have z4 : ((((w.alloc (.cells #[vX, vY, vV] 40)).alloc (.cells #[.int .i64 xl, .int .i64 xh] 27)).alloc (.cells #[.int .i64 yl, .int .i64 yh] 27)).alloc (.cells #[.int .i64 0, .int .i64 0] 27)).heap.size = w.heap.size + 4 := by simp
  by_cases hp : pointsE X Y V xl xh yl yh = 0
  · have hp2 : (pointsE X Y V xl xh yl yh != 0) = false := by simp [hp]
    obtain ⟨hE, hx, hy, hlx, hly, -, -⟩ := pointsE_zero hp
    have Hp := Lib.hid hp
    clear hp
    obtain ⟨q, hq, hqT⟩ := leastO_some hE (grid (stopsL X xl xh) (stopsL Y yl yh)) none (fun _ h => by cases h) (Or.inl (by simp [grid, stopsL]))
    obtain ⟨r', hr', hrT⟩ := mostO_some hE (grid (stopsL X xl xh) (stopsL Y yl yh)) none (fun _ h => by cases h) (Or.inl (by simp [grid, stopsL]))
    change leastO X Y V _ = some q at hq
    change mostO X Y V _ = some r' at hr'
    obtain ⟨q1, q2, q3, q4⟩ := at_bounds hE hqT
    obtain ⟨r1, r2, r3, r4⟩ := at_bounds hE hrT
    have e0 : optC X Y V (leastO X Y V (grid (stopsL X xl xh) (stopsL Y yl yh))) = ptC X Y V q := by rw [hq]; rfl
    have e1 : optC X Y V (mostO X Y V (grid (stopsL X xl xh) (stopsL Y yl yh))) = ptC X Y V r' := by rw [hr']; rfl
    have elo : lowB X Y V xl xh yl yh = atN X Y V q.1 q.2 / atD X Y q.1 q.2 := by rw [lowB, hq]
    have ehi : highB X Y V xl xh yl yh = upV (atN X Y V r'.1 r'.2) (atD X Y r'.1 r'.2) := by rw [highB, hr']
    have HE := Lib.hid hE
    have EX := fun (W : World) (hW : RT W vX vY vV X Y V) => spans_extremes vX vY vV X Y V xl xh yl yh W hW hE hx hy hlx hly
    rw [e0, e1] at EX
    have EQ : BoundV X Y V xl xh yl yh = .tuple #[.agg #[.int .i64 (atN X Y V q.1 q.2 / atD X Y q.1 q.2), .int .i64 (upV (atN X Y V r'.1 r'.2) (atD X Y r'.1 r'.2))], .int .i64 0] := by rw [BoundV, if_pos Hp.out, elo, ehi]
    rw [EQ]
    have PZ := Hp.out
    clear e0 e1 elo ehi hq hr' hE hx hy hlx hly hqT hrT EQ
    simp only [ptC] at EX
    generalize atN X Y V q.1 q.2 = n1 at *
    generalize atD X Y q.1 q.2 = d1 at *
    generalize atN X Y V r'.1 r'.2 = n2 at *
    generalize atD X Y r'.1 r'.2 = d2 at *
    have CP := spans_checkPoints vX vY vV X Y V xl xh yl yh _ (hR.below B4)
    rw [PZ] at CP
    rw [PZ] at hp2
    clear PZ Hp
    go_enter Try.func28, Try.ntmps28
    go_wp2_with fail
    refine CP.mono ?_
    rintro e w1 ⟨rfl, hb1⟩
    have R1 := (hR.below B4).below (hb1.mono (Nat.le_refl _))
    obtain ⟨hc1, hf1, hs1⟩ := bcell hb1
    have hz3 : w.heap.size + 1 + 1 + 1 < w1.heap.size := by rw [z4] at hs1; omega
    have E1 := B4.trans (hb1.mono (by rw [z4]; omega))
    clear hb1
    go_wp2_with fail
    refine (EX _ R1).mono ?_
    rintro e w2 ⟨rfl, hb2⟩
    obtain ⟨hc2, hf2, hs2⟩ := bcell hb2
    have hz4 : w.heap.size + 1 + 1 + 1 < w2.heap.size := by omega
    have E2 := E1.trans (hb2.mono (by have := E1.size; omega))
    clear hb2
    go_wp2_with fail
    refine rg_tail 11 (by kernel_rfl) (by kernel_rfl) ?_
    simp only [List.take_succ_cons, List.take_zero, List.drop_succ_cons, List.drop_zero]
    repeat (go_big_quiet_step (first | (go_at_call 58; exact Calls.rg_same (spans_floor _ _ _ (by omega) (by omega) (by omega) (by omega))) | (go_at_call 65; exact Calls.regrown_of (value_up _ _ _ (by omega) (by omega) (by omega) (by omega)))))
    refine wpQuiet_nil ?_
    intro w3 hw3
    have F3 := (((E2.alloc (by have := E2.size; omega) _).alloc (by have := E2.size; simp; omega) _)).trans ((rg_below hw3).mono (by have := E2.size; simp; omega))
    have G3 := (((Below.refl w2.heap.size w2).alloc (Nat.le_refl _) _).alloc (by simp) _).trans ((rg_below hw3).mono (by simp; omega))
    clear hw3
    obtain ⟨hc3, hf3, hs3⟩ := bcell G3
    have hz5 : w.heap.size + 1 + 1 + 1 < w3.heap.size := by omega
    go_wp2
    refine bodyPost_ret (v := .tuple #[.agg #[.int .i64 (n1 / d1), .int .i64 (upV n2 d2)], .int .i64 0]) (by simp [results, Try.results28, go_sem, hc3, hc2, hc1, hz3, hz4]) rfl ⟨rfl, ?_⟩
    exact (F3.setCell (by simp; omega) _).setCell (by simp; omega) _
  · have Hp := Lib.hid hp
    have hp2 : (pointsE X Y V xl xh yl yh != 0) = true := by simpa using hp
    clear hp
    go_enter Try.func28, Try.ntmps28
    go_wp2_with fail
    refine (spans_checkPoints vX vY vV X Y V xl xh yl yh _ (hR.below B4)).mono ?_
    rintro e w1 ⟨rfl, hb1⟩
    obtain ⟨hc1, hf1, hs1⟩ := bcell hb1
    have hz3 : w.heap.size + 1 + 1 + 1 < w1.heap.size := by rw [z4] at hs1; omega
    have E1 := B4.trans (hb1.mono (by rw [z4]; omega))
    clear hb1
    go_wp2
    refine bodyPost_ret (v := .tuple #[.agg #[.int .i64 0, .int .i64 0], .int .i64 (pointsE X Y V xl xh yl yh)]) (by simp [results, Try.results28, go_sem, hc1]) rfl ⟨by rw [BoundV, if_neg Hp.out], ?_⟩
    exact (E1.setCell (by simp; omega) _).setCell (by simp; omega) _

end Go.Proofs.Ytliddinpfgpnfaa
