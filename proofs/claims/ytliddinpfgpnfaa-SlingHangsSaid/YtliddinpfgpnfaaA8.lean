/- Contracts: a span on an axis, the errors of points on a table, a hoist. -/
import Derived.Test.YtliddinpfgpnfaaA7
namespace Go.Proofs.Ytliddinpfgpnfaa
open Go Go.RowKit Go.Sort
set_option linter.unusedSimpArgs false
set_option linter.unusedVariables false

/-- The first and the last number. -/
def hd (zs : List Int) : Int := zs.getD 0 0
def la (zs : List Int) : Int := zs.getD (zs.length - 1) 0

theorem RI.ends {w : World} {v : Value} {zs : List Int} (h : RI w v zs) (hn : 0 < zs.length) :
    ∃ b o c, v = .slice (some ⟨b, o, none⟩) zs.length c ∧ b < w.heap.size ∧ w.cell? ⟨b, o, none⟩ = some (.int .i64 (hd zs)) ∧ w.cell? ⟨b, o + (zs.length - 1), none⟩ = some (.int .i64 (la zs)) := by
  obtain ⟨b, o, c, e, hc, hb, hcell⟩ := h.open hn
  exact ⟨b, o, c, e, hb, hcell 0 hn, hcell _ (by omega)⟩

/-- A span lies between the first and the last knot. -/
def liesB (zs : List Int) (lo hi : Int) : Bool := decide (hd zs ≤ lo) && decide (hi ≤ la zs)

set_option maxRecDepth 100000 in
set_option maxHeartbeats 1600000 in
theorem spans_lies (v : Value) (zs : List Int) (lo hi : Int) (w : World) (hR : RI w v zs) (hn : 0 < zs.length) (hl : zs.length ≤ 1000000000000000000) :
    Calls Try.prog 56 #[v, .agg #[.int .i64 lo, .int .i64 hi]] w (AllBelow (.bool (liesB zs lo hi)) w) := by
  obtain ⟨b, o, c, rfl, hb, h0, h1⟩ := hR.ends hn
  have hn2 : (0 : Int) < (zs.length : Int) := by omega
  have hn3 : ((zs.length : Int) - 1).toNat = zs.length - 1 := by omega
  have hb2 : b < w.heap.size + 1 := by omega
  by_cases h : hd zs ≤ lo
  · go_enter Try.func56, Try.ntmps56
    go_wp2
    refine rg_all (by kernel_rfl) (by kernel_rfl) ?_
    repeat (go_big_quiet_step (fail))
    refine wpQuiet_nil ?_
    intro w1 hw1
    have hb1 := rg_below hw1
    clear hw1
    go_wp2
    go_ret
    exact ⟨ret_bool (by simp [liesB, h]), ((Below.refl _ _).alloc (Nat.le_refl _) _).trans (hb1.mono (by simp))⟩
  · have hh : decide (hd zs ≤ lo) = false := by simpa using h
    clear h
    go_enter Try.func56, Try.ntmps56
    go_wp2
    refine rg_all (by kernel_rfl) (by kernel_rfl) ?_
    repeat (go_big_quiet_step (fail))
    refine wpQuiet_nil ?_
    intro w1 hw1
    have hb1 := rg_below hw1
    clear hw1
    go_wp2
    go_ret
    exact ⟨ret_bool (by simp [liesB, hh]), ((Below.refl _ _).alloc (Nat.le_refl _) _).trans (hb1.mono (by simp))⟩

/-- The error of points on a table. -/
def pointsE (X Y : List Int) (V : List (List Int)) (xl xh yl yh : Int) : Int :=
  if tableE X Y V = 0 then if spannedE [(xl, xh), (yl, yh)] = 0 then if liesB X xl xh && liesB Y yl yh then 0 else 1 else 10 else 11

theorem RP.lit4 (w : World) (a b c d : Int) (T : TypeId) : RP (w.alloc (.cells #[.int .i64 a, .int .i64 b, .int .i64 c, .int .i64 d] T)) (.slice (some ⟨w.heap.size, 0, none⟩) 2 2) [(a, b), (c, d)] :=
  ⟨_, 2, rfl, Nat.le_refl _, rfl, fun j u hu => ⟨w.heap.size, 0, rfl, by
    have e : (#[Value.int .i64 a, .int .i64 b, .int .i64 c, .int .i64 d] : Array Value)[j]? = some u := by simpa [prs] using hu
    simp only [World.cell?, heap_alloc_new, Nat.zero_add]
    exact e⟩⟩

theorem tableE_zero {X Y : List Int} {V : List (List Int)} (h : tableE X Y V = 0) : axB X = true ∧ axB Y = true ∧ V.length = X.length ∧ anyBadRow Y.length V = false := by
  unfold tableE at h
  split at h
  · rename_i h'; simpa [Bool.and_eq_true, and_assoc] using h'
  · omega
theorem axB_len {X : List Int} (h : axB X = true) : 2 ≤ X.length ∧ X.length ≤ 12 := by
  simp only [axB, wi, Bool.and_eq_true, decide_eq_true_eq] at h
  omega

theorem tableE_or (X Y : List Int) (V : List (List Int)) : tableE X Y V = 0 ∨ tableE X Y V = 11 := by unfold tableE; split <;> simp
theorem spannedE_or (l : List (Int × Int)) : spannedE l = 0 ∨ spannedE l = 10 := by unfold spannedE; split <;> simp

set_option maxHeartbeats 3200000 in
theorem spans_checkPoints (vX vY vV : Value) (X Y : List Int) (V : List (List Int)) (xl xh yl yh : Int) (w : World) (hR : RT w vX vY vV X Y V) :
    Calls Try.prog 63 #[.agg #[vX, vY, vV], .agg #[.int .i64 xl, .int .i64 xh], .agg #[.int .i64 yl, .int .i64 yh]] w (AllBelow (.int .i64 (pointsE X Y V xl xh yl yh)) w) := by
  obtain ⟨Ax, cx, rfl, hcx⟩ := hR.x.form
  obtain ⟨Ay, cy, rfl, hcy⟩ := hR.y.form
  obtain ⟨Av, cv, rfl, hcv⟩ := hR.v.form
  rcases tableE_or X Y V with h1 | h1
  · obtain ⟨a1, a2, a3, a4⟩ := tableE_zero h1
    have hx0 : 0 < X.length := by have := axB_len a1; omega
    have hy00 : 0 < Y.length := by have := axB_len a2; omega
    clear a1 a2 a3 a4
    rcases spannedE_or [(xl, xh), (yl, yh)] with h2 | h2
    · cases h3 : liesB X xl xh
      · go_enter Try.func63, Try.ntmps63
        go_wp2_with fail
        refine (spans_CheckTable _ _ _ X Y V _ (hR.below (by exact ((((Below.refl w.heap.size w).alloc (Nat.le_refl _) _).alloc (by simp) _).alloc (by simp; omega) _)))).mono ?_
        rintro e w1 ⟨rfl, hb1⟩
        obtain ⟨hc1, hf1, hs1⟩ := bcell hb1
        have hz0 : w.heap.size < w1.heap.size := by simp at hs1; omega
        have hz1 : w.heap.size + 1 < w1.heap.size := by simp at hs1; omega
        have hz2 : w.heap.size + 1 + 1 < w1.heap.size := by simp at hs1; omega
        have H1 : Below w.heap.size w w1 := ((((Below.refl w.heap.size w).alloc (Nat.le_refl _) _).alloc (by simp) _).alloc (by simp; omega) _).trans (hb1.mono (by simp; omega))
        clear hb1
        go_wp2_with fail
        refine (spans_spanned _ [(xl, xh), (yl, yh)] _ (by exact RP.lit4 _ _ _ _ _ _) (by simp)).mono ?_
        rintro e w2 ⟨rfl, hb2⟩
        obtain ⟨hc2, hf2, hs2⟩ := bcell hb2
        have hy0 : w.heap.size < w2.heap.size := by simp at hs2; omega
        have hy1 : w.heap.size + 1 < w2.heap.size := by simp at hs2; omega
        have hy2 : w.heap.size + 1 + 1 < w2.heap.size := by simp at hs2; omega
        have H2 : Below w.heap.size w w2 := (H1.alloc H1.size _).trans (hb2.mono (by have := H1.size; simp; omega))
        clear hb2
        go_wp2_with fail
        refine (spans_lies _ X _ _ _ (hR.x.below H2) hx0 hR.lx).mono ?_
        rintro e w3 ⟨rfl, hb3⟩
        obtain ⟨hc3, hf3, hs3⟩ := bcell hb3
        have H3 : Below w.heap.size w w3 := H2.trans (hb3.mono H2.size)
        clear hb3
        go_wp2
        go_ret
        exact ⟨ret_int (by simp [pointsE, h1, h2, h3]), H3⟩
      · cases h4 : liesB Y yl yh
        all_goals
          go_enter Try.func63, Try.ntmps63
          go_wp2_with fail
          refine (spans_CheckTable _ _ _ X Y V _ (hR.below (by exact ((((Below.refl w.heap.size w).alloc (Nat.le_refl _) _).alloc (by simp) _).alloc (by simp; omega) _)))).mono ?_
          rintro e w1 ⟨rfl, hb1⟩
          obtain ⟨hc1, hf1, hs1⟩ := bcell hb1
          have hz0 : w.heap.size < w1.heap.size := by simp at hs1; omega
          have hz1 : w.heap.size + 1 < w1.heap.size := by simp at hs1; omega
          have hz2 : w.heap.size + 1 + 1 < w1.heap.size := by simp at hs1; omega
          have H1 : Below w.heap.size w w1 := ((((Below.refl w.heap.size w).alloc (Nat.le_refl _) _).alloc (by simp) _).alloc (by simp; omega) _).trans (hb1.mono (by simp; omega))
          clear hb1
          go_wp2_with fail
          refine (spans_spanned _ [(xl, xh), (yl, yh)] _ (by exact RP.lit4 _ _ _ _ _ _) (by simp)).mono ?_
          rintro e w2 ⟨rfl, hb2⟩
          obtain ⟨hc2, hf2, hs2⟩ := bcell hb2
          have hy0 : w.heap.size < w2.heap.size := by simp at hs2; omega
          have hy1 : w.heap.size + 1 < w2.heap.size := by simp at hs2; omega
          have hy2 : w.heap.size + 1 + 1 < w2.heap.size := by simp at hs2; omega
          have H2 : Below w.heap.size w w2 := (H1.alloc H1.size _).trans (hb2.mono (by have := H1.size; simp; omega))
          clear hb2
          go_wp2_with fail
          refine (spans_lies _ X _ _ _ (hR.x.below H2) hx0 hR.lx).mono ?_
          rintro e w3 ⟨rfl, hb3⟩
          obtain ⟨hc3, hf3, hs3⟩ := bcell hb3
          have H3 : Below w.heap.size w w3 := H2.trans (hb3.mono H2.size)
          clear hb3
          go_wp2_with fail
          refine (spans_lies _ Y _ _ _ (hR.y.below H3) hy00 hR.ly).mono ?_
          rintro e w4 ⟨rfl, hb4⟩
          have H4 : Below w.heap.size w w4 := H3.trans (hb4.mono H3.size)
          clear hb4
          go_wp2
          go_ret
          exact ⟨ret_int (by simp [pointsE, h1, h2, h3, h4]), H4⟩
    · go_enter Try.func63, Try.ntmps63
      go_wp2_with fail
      refine (spans_CheckTable _ _ _ X Y V _ (hR.below (by exact ((((Below.refl w.heap.size w).alloc (Nat.le_refl _) _).alloc (by simp) _).alloc (by simp; omega) _)))).mono ?_
      rintro e w1 ⟨rfl, hb1⟩
      obtain ⟨hc1, hf1, hs1⟩ := bcell hb1
      have hz0 : w.heap.size < w1.heap.size := by simp at hs1; omega
      have hz1 : w.heap.size + 1 < w1.heap.size := by simp at hs1; omega
      have hz2 : w.heap.size + 1 + 1 < w1.heap.size := by simp at hs1; omega
      have H1 : Below w.heap.size w w1 := ((((Below.refl w.heap.size w).alloc (Nat.le_refl _) _).alloc (by simp) _).alloc (by simp; omega) _).trans (hb1.mono (by simp; omega))
      clear hb1
      go_wp2_with fail
      refine (spans_spanned _ [(xl, xh), (yl, yh)] _ (by exact RP.lit4 _ _ _ _ _ _) (by simp)).mono ?_
      rintro e w2 ⟨rfl, hb2⟩
      obtain ⟨hc2, hf2, hs2⟩ := bcell hb2
      have hy0 : w.heap.size < w2.heap.size := by simp at hs2; omega
      have hy1 : w.heap.size + 1 < w2.heap.size := by simp at hs2; omega
      have hy2 : w.heap.size + 1 + 1 < w2.heap.size := by simp at hs2; omega
      have H2 : Below w.heap.size w w2 := (H1.alloc H1.size _).trans (hb2.mono (by have := H1.size; simp; omega))
      clear hb2
      go_wp2
      go_ret
      exact ⟨ret_int (by simp [pointsE, h1, h2]), H2⟩
  · go_enter Try.func63, Try.ntmps63
    go_wp2_with fail
    refine (spans_CheckTable _ _ _ X Y V _ (hR.below (by exact ((((Below.refl w.heap.size w).alloc (Nat.le_refl _) _).alloc (by simp) _).alloc (by simp; omega) _)))).mono ?_
    rintro e w1 ⟨rfl, hb1⟩
    obtain ⟨hc1, hf1, hs1⟩ := bcell hb1
    have hz0 : w.heap.size < w1.heap.size := by simp at hs1; omega
    have hz1 : w.heap.size + 1 < w1.heap.size := by simp at hs1; omega
    have hz2 : w.heap.size + 1 + 1 < w1.heap.size := by simp at hs1; omega
    have H1 : Below w.heap.size w w1 := ((((Below.refl w.heap.size w).alloc (Nat.le_refl _) _).alloc (by simp) _).alloc (by simp; omega) _).trans (hb1.mono (by simp; omega))
    clear hb1
    go_wp2
    go_ret
    exact ⟨ret_int (by simp [pointsE, h1]), H1⟩

end Go.Proofs.Ytliddinpfgpnfaa
