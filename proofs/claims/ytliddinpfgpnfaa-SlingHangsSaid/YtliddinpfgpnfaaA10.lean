/- Contract: a winch is made. -/
import Derived.Test.YtliddinpfgpnfaaA9
namespace Go.Proofs.Ytliddinpfgpnfaa
open Go Go.RowKit Go.Sort
set_option linter.unusedSimpArgs false
set_option linter.unusedVariables false

theorem RP.lit2 (w : World) (a b : Int) (T : TypeId) : RP (w.alloc (.cells #[.int .i64 a, .int .i64 b] T)) (.slice (some ⟨w.heap.size, 0, none⟩) 1 1) [(a, b)] :=
  ⟨_, 1, rfl, Nat.le_refl _, rfl, fun j u hu => ⟨w.heap.size, 0, rfl, by
    have e : (#[Value.int .i64 a, Value.int .i64 b] : Array Value)[j]? = some u := by simpa [prs] using hu
    simp only [World.cell?, heap_alloc_new, Nat.zero_add]
    exact e⟩⟩

/-- The cells of a winch. -/
def winchC (cable : Int) (vX vY vV : Value) (charge lo hi length weight since cycles : Int) (cut touched : Bool) : Array Value :=
  #[.int .i64 cable, vX, vY, vV, .int .i64 charge, .int .i64 lo, .int .i64 hi, .int .i64 length, .int .i64 weight, .int .i64 since, .int .i64 cycles, .bool cut, .bool touched]

/-- The error of a hoist and winds, but for whether they lie on the table. -/
def winchE (cable : Int) (X Y : List Int) (V : List (List Int)) (charge lo hi : Int) : Int :=
  if hoistE cable X Y V charge = 0 then boxE [(lo, hi)] else 71

def WinchPost (cable : Int) (vX vY vV : Value) (X Y : List Int) (V : List (List Int)) (charge lo hi : Int) (w : World) (e : Ending) (w' : World) : Prop :=
  Below w.heap.size w w' ∧
  ((winchE cable X Y V charge lo hi ≠ 0 ∧ e = .returned (.tuple #[.pointer none, .bool false, .int .i64 (winchE cable X Y V charge lo hi)])) ∨
   (winchE cable X Y V charge lo hi = 0 ∧ ∃ g, w.heap.size ≤ g ∧ e = .returned (.tuple #[.pointer (some ⟨g, 0, none⟩), .bool (liesB Y lo hi), .int .i64 0]) ∧
      w'.heap[g]? = some (.cells (winchC cable vX vY vV charge lo hi 0 0 0 0 false false) 107 (0, 0))))

theorem hoistE_or (cable : Int) (X Y : List Int) (V : List (List Int)) (charge : Int) : hoistE cable X Y V charge = 0 ∨ hoistE cable X Y V charge = 71 := by unfold hoistE; split <;> simp
theorem boxE_or (l : List (Int × Int)) : boxE l = 0 ∨ boxE l = 10 := by
  unfold boxE; split
  · exact spannedE_or l
  · simp
theorem hoistE_zero {cable : Int} {X Y : List Int} {V : List (List Int)} {charge : Int} (h : hoistE cable X Y V charge = 0) : 1 ≤ cable ∧ cable ≤ 100 ∧ tableE X Y V = 0 ∧ hd X ≤ 0 ∧ cable ≤ la X ∧ 0 ≤ charge ∧ charge ≤ 100 := by
  unfold hoistE at h
  split at h
  · rename_i h'
    simp only [wi, Bool.and_eq_true, decide_eq_true_eq, beq_iff_eq] at h'
    omega
  · omega

set_option maxRecDepth 100000 in
set_option maxHeartbeats 3200000 in
theorem sling_newWinch (cable charge lo hi : Int) (vX vY vV : Value) (X Y : List Int) (V : List (List Int)) (w : World) (hR : RT w vX vY vV X Y V) :
    Calls Try.prog 49 #[.agg #[.int .i64 cable, vX, vY, vV, .int .i64 charge], .agg #[.int .i64 lo, .int .i64 hi]] w (WinchPost cable vX vY vV X Y V charge lo hi w) := by
  have b2 := ((Below.refl w.heap.size w).alloc (Nat.le_refl _) (.cells #[.int .i64 cable, vX, vY, vV, .int .i64 charge] 42)).alloc (by simp) (.cells #[.int .i64 lo, .int .i64 hi] 27)
  obtain ⟨Ax, cx, rfl, hcx⟩ := hR.x.form
  obtain ⟨Av, cv, rfl, hcv⟩ := hR.v.form
  obtain ⟨Ay, cy, hvY, hcy⟩ := hR.y.form
  rcases hoistE_or cable X Y V charge with h1 | h1
  · rcases boxE_or [(lo, hi)] with h2 | h2
    · obtain ⟨_, _, z, _⟩ := hoistE_zero h1
      clear hvY
      have hy0 := axB_len (tableE_zero z).2.1
      clear z
      obtain ⟨b, o, c, rfl, hb, hc0, hc1⟩ := hR.y.ends (by omega)
      have hn2 : (0 : Int) < (Y.length : Int) := by omega
      have hn3 : ((Y.length : Int) - 1).toNat = Y.length - 1 := by omega
      have hly := hR.ly
      obtain ⟨t, h3⟩ : ∃ t : Bool, decide (hd Y ≤ lo) = t := ⟨_, rfl⟩
      cases t
      all_goals
        have H3 := Lib.hid h3
        go_enter Try.func49, Try.ntmps49
        go_wp2_with fail
        refine (sling_CheckHoist _ _ _ _ _ X Y V _ (hR.below b2)).mono ?_
        rintro e w1 ⟨rfl, hb1⟩
        obtain ⟨hd1, hf1, hs1⟩ := bcell hb1
        have hz0 : w.heap.size < w1.heap.size := by simp at hs1; omega
        have hz1 : w.heap.size + 1 < w1.heap.size := by simp at hs1; omega
        have H1 := b2.trans (hb1.mono (by simp; omega))
        clear hb1
        go_wp2_with fail
        refine (spans_Check _ [(lo, hi)] _ (by exact RP.lit2 _ _ _ _) (by simp)).mono ?_
        rintro e w2 ⟨rfl, hb2⟩
        obtain ⟨hd2, hf2, hs2⟩ := bcell hb2
        have H2 := (H1.alloc H1.size _).trans (hb2.mono (by have := H1.size; simp; omega))
        clear hb2
        go_wp2
        have k0 : w2.cell? ⟨w.heap.size, 0, none⟩ = some (.int .i64 cable) := by rw [hd2 _ _ (by simp; omega)]; simp [go_sem, hd1, hz0]
        have k1 : w2.cell? ⟨w.heap.size, 1, none⟩ = some (.slice Ax X.length cx) := by rw [hd2 _ _ (by simp; omega)]; simp [go_sem, hd1, hz0]
        have k2 : w2.cell? ⟨w.heap.size, 2, none⟩ = some (.slice (some ⟨b, o, none⟩) Y.length c) := by rw [hd2 _ _ (by simp; omega)]; simp [go_sem, hd1, hz0]
        have k3 : w2.cell? ⟨w.heap.size, 3, none⟩ = some (.slice Av V.length cv) := by rw [hd2 _ _ (by simp; omega)]; simp [go_sem, hd1, hz0]
        have k4 : w2.cell? ⟨w.heap.size, 4, none⟩ = some (.int .i64 charge) := by rw [hd2 _ _ (by simp; omega)]; simp [go_sem, hd1, hz0]
        have l0 : w2.cell? ⟨w.heap.size + 1, 0, none⟩ = some (.int .i64 lo) := by rw [hd2 _ _ (by simp; omega)]; simp [go_sem, hd1, hz1]
        have l1 : w2.cell? ⟨w.heap.size + 1, 1, none⟩ = some (.int .i64 hi) := by rw [hd2 _ _ (by simp; omega)]; simp [go_sem, hd1, hz1]
        have y0 : w2.cell? ⟨b, o, none⟩ = some (.int .i64 (hd Y)) := (H2.cell (p := ⟨b, o, none⟩) hb).trans hc0
        have y1 : w2.cell? ⟨b, o + (Y.length - 1), none⟩ = some (.int .i64 (la Y)) := (H2.cell (p := ⟨b, o + (Y.length - 1), none⟩) hb).trans hc1
        clear hd1 hd2 hf1 hf2 hc0 hc1
        have hn0 : 0 < Y.length := by omega
        have hw1 : IntKind.i64.wrap ((Y.length : Int) - 1) = (Y.length : Int) - 1 := IntWalk.i64_in _ (by omega)
        have hw2 : 0 ≤ (Y.length : Int) - 1 := by omega
        have hw3 : (1 : Int) ≤ (Y.length : Int) := by omega
        have hw4 : (Y.length : Int) - 1 < (Y.length : Int) := by omega
        have hy0 : w.heap.size < w2.heap.size := by have := H2.size; simp at hs2; omega
        have hy1 : w.heap.size + 1 < w2.heap.size := by simp at hs2; omega
        have hyb : b < w2.heap.size := by omega
        go_region
        go_wp2
        go_ret3
        refine ⟨(H2.drew).alloc H2.size _, Or.inr ⟨by rw [winchE, if_pos h1, h2], w2.heap.size, H2.size, ?_, ?_⟩⟩
        · first
            | (rw [show liesB Y lo hi = decide (hi ≤ la Y) by rw [liesB, H3.out]; rfl]; rfl)
            | (rw [show liesB Y lo hi = false by rw [liesB, H3.out]; rfl]; rfl)
        · exact heap_alloc_new w2.drew _
    · subst hvY
      go_enter Try.func49, Try.ntmps49
      go_wp2_with fail
      refine (sling_CheckHoist _ _ _ _ _ X Y V _ (hR.below b2)).mono ?_
      rintro e w1 ⟨rfl, hb1⟩
      obtain ⟨hd1, hf1, hs1⟩ := bcell hb1
      have hz0 : w.heap.size < w1.heap.size := by simp at hs1; omega
      have hz1 : w.heap.size + 1 < w1.heap.size := by simp at hs1; omega
      have H1 := b2.trans (hb1.mono (by simp; omega))
      clear hb1
      go_wp2_with fail
      refine (spans_Check _ [(lo, hi)] _ (by exact RP.lit2 _ _ _ _) (by simp)).mono ?_
      rintro e w2 ⟨rfl, hb2⟩
      have H2 := (H1.alloc H1.size _).trans (hb2.mono (by have := H1.size; simp; omega))
      clear hb2
      go_wp2
      go_ret3
      exact ⟨H2, Or.inl ⟨by rw [winchE, if_pos h1, h2]; decide, by rw [winchE, if_pos h1, h2]; rfl⟩⟩
  · subst hvY
    go_enter Try.func49, Try.ntmps49
    go_wp2_with fail
    refine (sling_CheckHoist _ _ _ _ _ X Y V _ (hR.below b2)).mono ?_
    rintro e w1 ⟨rfl, hb1⟩
    have H1 := b2.trans (hb1.mono (by simp; omega))
    clear hb1
    go_wp2
    go_ret3
    exact ⟨H1, Or.inl ⟨by rw [winchE, if_neg (by omega)]; decide, by rw [winchE, if_neg (by omega)]; rfl⟩⟩

end Go.Proofs.Ytliddinpfgpnfaa
