/- Contracts: the displacement of a load, and Swing. -/
import Derived.Test.YtliddinpfgpnfaaA1
import Derived.Test.YtliddinpfgpnfaaA2
import Derived.Test.YtliddinpfgpnfaaA3
import Derived.Test.YtliddinpfgpnfaaL1
namespace Go.Proofs.Ytliddinpfgpnfaa
open Go Go.RowKit Go.Sort
set_option linter.unusedSimpArgs false
set_option linter.unusedVariables false

set_option maxRecDepth 100000 in
set_option maxHeartbeats 1600000 in
theorem sling_place (b : Nat) (a d : Int) (w : World) (h3 : w.cell? ⟨b, 3, none⟩ = some (.int .i64 a)) (h5 : w.cell? ⟨b, 5, none⟩ = some (.int .i64 d))
    (ha : -1000000000000000000 ≤ a) (ha' : a ≤ 1000000000000000000) (hb : 0 < d) (hb' : d ≤ 1000000000000000000) :
    Calls Try.prog 47 #[.pointer (some ⟨b, 0, none⟩)] w (AllBelow (lowV a d) w) := by
  have hlt := lt_of_cell h3
  go_enter Try.func47, Try.ntmps47
  go_wp2
  refine rg_tail 9 (by kernel_rfl) (by kernel_rfl) ?_
  simp only [List.take_succ_cons, List.take_zero, List.drop_succ_cons, List.drop_zero]
  repeat (go_big_quiet_step ((go_at_call 69; exact Calls.regrown_of (sling_lowest _ _ _ ha ha' hb hb'))))
  refine wpQuiet_nil ?_
  intro w1 hw1
  have hb1 := rg_below hw1
  clear hw1
  obtain ⟨hc1, hf1, hs1⟩ := bcell hb1
  simp only [lowV]
  go_wp2
  have hsz : w.heap.size < w1.heap.size := by simp at hs1; omega
  refine bodyPost_ret (v := lowV a d) (by simp [results, Try.results47, go_sem, hc1, lowV]) rfl ⟨rfl, ?_⟩
  exact (((Below.refl _ _).alloc (Nat.le_refl _) _).trans (hb1.mono (by simp))).setCell (Nat.le_refl _) _ |>.setCell (Nat.le_refl _) _

/-- A fraction in lowest terms. -/
def lowP (a b : Int) : Int × Int := (a / (Int.gcd a b : Int), b / (Int.gcd a b : Int))

/-- The displacements behind the ticks. -/
def fr (num damp D : Int) : Int × Int × Int → List Int → List (Int × Int)
  | _, [] => []
  | s, g :: gs => lowP (tk num damp D s g).1 (tk num damp D s g).2.2 :: fr num damp D (tk num damp D s g) gs

theorem fr_len (num damp D : Int) (gs : List Int) : ∀ s, (fr num damp D s gs).length = gs.length := by
  induction gs with
  | nil => intro s; rfl
  | cons g gs ih => intro s; simp [fr, ih]

theorem fr_snoc (num damp D : Int) (gs : List Int) (g : Int) : ∀ s, fr num damp D s (gs ++ [g]) = fr num damp D s gs ++ [lowP (tk num damp D (runs num damp D s gs) g).1 (tk num damp D (runs num damp D s gs) g).2.2] := by
  induction gs with
  | nil => intro s; rfl
  | cons x gs ih => intro s; simp only [List.cons_append, fr, ih]; rfl

theorem runs_snoc (num damp D : Int) (gs : List Int) (g : Int) (s : Int × Int × Int) : runs num damp D s (gs ++ [g]) = tk num damp D (runs num damp D s gs) g := by
  simp [runs, List.foldl_append]

/-- Swing's error. -/
def swingE (num damp D a v : Int) (gs : List Int) : Int :=
  if slingV num damp D = 0 then if 16 < gs.length then 2 else if wi a (-1000) 1000 && wi v (-1000) 1000 && !badG gs then 0 else 1 else 70

def swingL (num damp D a v : Int) (gs : List Int) : List (Int × Int) := if swingE num damp D a v gs = 0 then fr num damp D (a, v, 1) gs else []

def SwingPost (num damp D a v : Int) (gs : List Int) (w : World) (e : Ending) (w' : World) : Prop :=
  ∃ vo, e = .returned (.tuple #[vo, .int .i64 (swingE num damp D a v gs)]) ∧ Below w.heap.size w w' ∧ RS w' vo 2 (swingL num damp D a v gs).length (prs (swingL num damp D a v gs))

theorem slingV_ok {num damp D : Int} (h : slingV num damp D = 0) : ok3 num damp D := by
  unfold slingV at h
  split at h
  · rename_i h'
    simp only [wi, Bool.and_eq_true, decide_eq_true_eq] at h'
    obtain ⟨⟨⟨h1, h2⟩, h3, h4⟩, h5, h6⟩ := h'
    rw [w64 (by omega)] at h4
    exact ⟨h1, h2, h3, h4, h5, h6⟩
  · omega

theorem swing_fail (num damp D a v : Int) (gs : List Int) (w w' : World) (x : Int) (hx : swingE num damp D a v gs = x) (h0 : x ≠ 0) (hb : Below w.heap.size w w') :
    SwingPost num damp D a v gs w (.returned (.tuple #[.slice none 0 0, .int .i64 x])) w' :=
  ⟨_, by rw [hx], hb, by simp only [swingL, if_neg (show ¬ swingE num damp D a v gs = 0 by omega)]; exact RS.nil _ _⟩

set_option maxRecDepth 100000 in
set_option maxHeartbeats 3200000 in
theorem sling_Swing_fail (num damp D a v : Int) (vg : Value) (gs : List Int) (w : World) (hR : RI w vg gs) (hl : gs.length ≤ 1000000000000000000) (hE : swingE num damp D a v gs ≠ 0) :
    Calls Try.prog 14 #[.agg #[.int .i64 num, .int .i64 damp, .int .i64 D], .agg #[.int .i64 a, .int .i64 v], vg] w (SwingPost num damp D a v gs w) := by
  have HE := Lib.hid hE
  clear hE
  obtain ⟨A, c, rfl, hc⟩ := hR.form
  have W2 : ∀ w1, Below (w.heap.size + 1 + 1) ((w.alloc (.cells #[.int .i64 num, .int .i64 damp, .int .i64 D] 23)).alloc (.cells #[.int .i64 a, .int .i64 v] 24)) w1 → Below w.heap.size w w1 := fun w1 h =>
    (((Below.refl _ _).alloc (Nat.le_refl _) _).alloc (by simp) _).trans (h.mono (by omega))
  by_cases h1 : slingV num damp D = 0
  · by_cases h2 : 16 < gs.length
    · go_enter Try.func14, Try.ntmps14
      go_wp2_with (go_at_call 41; refine (sling_Check _ _ _ _).mono ?_; rintro e w1 ⟨rfl, hb⟩; obtain ⟨hc1, hf1, hs1⟩ := bcell hb; have Hb := Lib.hid hb; clear hb)
      go_ret2
      exact swing_fail _ _ _ _ _ _ _ _ 2 (by rw [swingE, if_pos h1, if_pos h2]) (by decide) (W2 _ (by simpa using Hb.out))
    · cases h3 : (wi a (-1000) 1000 && wi v (-1000) 1000)
      · have h3' := Lib.hid h3
        clear h3
        go_enter Try.func14, Try.ntmps14
        go_wp2_with (first
          | (go_at_call 41; refine (sling_Check _ _ _ _).mono ?_; rintro e w1 ⟨rfl, hb⟩; obtain ⟨hc1, hf1, hs1⟩ := bcell hb; have Hb := Lib.hid hb; clear hb)
          | (go_at_call 42; refine (sling_started _ _ _).mono ?_; rintro e w2 ⟨rfl, hb⟩; rw [h3'.out]; obtain ⟨hc2, hf2, hs2⟩ := bcell hb; have Hb2 := Lib.hid hb; clear hb))
        go_ret2
        exact swing_fail _ _ _ _ _ _ _ _ 1 (by rw [swingE, if_pos h1, if_neg h2, h3'.out]; rfl) (by decide) ((W2 _ (by simpa using Hb.out)).trans (Hb2.out.mono (by simp at hs1; omega)))
      · cases h4 : badG gs
        · exact absurd (by rw [swingE, if_pos h1, if_neg h2, h3, h4]; rfl) HE.out
        · have h3' := Lib.hid h3
          clear h3
          go_enter Try.func14, Try.ntmps14
          go_wp2_with (first
            | (go_at_call 41; refine (sling_Check _ _ _ _).mono ?_; rintro e w1 ⟨rfl, hb⟩; obtain ⟨hc1, hf1, hs1⟩ := bcell hb; have HR1 := Lib.hid (hR.below (W2 _ (by simpa using hb))); have Hb := Lib.hid hb; clear hb)
            | (go_at_call 42; refine (sling_started _ _ _).mono ?_; rintro e w2 ⟨rfl, hb⟩; rw [h3'.out]; obtain ⟨hc2, hf2, hs2⟩ := bcell hb; have HR2 := Lib.hid (HR1.out.below hb); have Hb2 := Lib.hid hb; clear hb)
            | (go_at_call 43; refine (any44 _ gs _ HR2.out hl).mono ?_; rintro e w3 ⟨rfl, rfl⟩))
          go_ret2
          exact swing_fail _ _ _ _ _ _ _ _ 1 (by rw [swingE, if_pos h1, if_neg h2, h3'.out, h4]; rfl) (by decide) ((W2 _ (by simpa using Hb.out)).trans (Hb2.out.mono (by simp at hs1; omega)))
  · have h1' : slingV num damp D = 70 := by unfold slingV at h1 ⊢; split at h1 <;> simp_all
    go_enter Try.func14, Try.ntmps14
    go_wp2_with (go_at_call 41; refine (sling_Check _ _ _ _).mono ?_; rintro e w1 ⟨rfl, hb⟩; obtain ⟨hc1, hf1, hs1⟩ := bcell hb; have Hb := Lib.hid hb; clear hb)
    go_ret2
    exact swing_fail _ _ _ _ _ _ _ _ 70 (by rw [swingE, if_neg h1]) (by decide) (W2 _ (by simpa using Hb.out))

end Go.Proofs.Ytliddinpfgpnfaa
