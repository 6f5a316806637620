/- Contracts of the specification: a step of a hoist. -/
import Derived.Test.YtliddinpfgpnfaaA28
import Derived.BigRegion
import Derived.Deep.DrawnRows
namespace Go.Proofs.Ytliddinpfgpnfaa
open Go Go.RowKit Go.Sort
set_option linter.unusedSimpArgs false
set_option linter.unusedVariables false

/-- A step, as the specification does it. -/
def refO (cable : Int) (X Y : List Int) (V : List (List Int)) (charge lo hi : Int) (s : Hg) (k n : Int) : Option Hg :=
  if s.cut then none
  else if k = 1 then if 1 ≤ n ∧ n ≤ 100 ∧ 0 ≤ s.L + n ∧ s.L + n ≤ cable ∧ (0 < s.W → bearB X Y V lo hi (s.L + n) s.W = true) then some { s with L := s.L + n, S := s.S + 1 } else none
  else if k = 2 then if 1 ≤ n ∧ n ≤ 100 ∧ 0 ≤ s.L - n ∧ s.L - n ≤ cable ∧ (0 < s.W → bearB X Y V lo hi (s.L - n) s.W = true) then some { s with L := s.L - n, S := s.S + 1 } else none
  else if k = 3 then if n = 0 ∧ 0 < s.L then some { s with S := 0, t := true } else none
  else if k = 4 then if wi n 1 100000 = true ∧ s.W = 0 ∧ 0 < s.L ∧ s.t = true ∧ s.S < charge ∧ bearB X Y V lo hi s.L n = true then some { s with W := n, S := s.S + 1 } else none
  else if k = 5 then if n = 0 ∧ 0 < s.W then some { s with W := 0, C := s.C + 1, S := s.S + 1 } else none
  else if k = 6 then if n = 0 then some { s with L := 0, W := 0, cut := true, S := s.S + 1 } else none
  else none

def StepPost (r : Option Hg) (w : World) (e : Ending) (w' : World) : Prop :=
  Below w.heap.size w w' ∧ match r with
  | some s => e = .returned (.tuple #[.agg #[.int .i64 s.L, .int .i64 s.W, .int .i64 s.S, .int .i64 s.C, .bool s.cut], .bool s.t, .bool true])
  | none => ∃ (a b c d : Int) (p q : Bool), e = .returned (.tuple #[.agg #[.int .i64 a, .int .i64 b, .int .i64 c, .int .i64 d, .bool p], .bool q, .bool false])

theorem StepPost.no {w w' : World} {r : Option Hg} (hr : r = none) (hb : Below w.heap.size w w') (a b c d : Int) (p q : Bool) : StepPost r w (.returned (.tuple #[.agg #[.int .i64 a, .int .i64 b, .int .i64 c, .int .i64 d, .bool p], .bool q, .bool false])) w' := by
  subst hr; exact ⟨hb, a, b, c, d, p, q, rfl⟩
theorem StepPost.yes {w w' : World} {r : Option Hg} {s : Hg} (hr : r = some s) (hb : Below w.heap.size w w') : StepPost r w (.returned (.tuple #[.agg #[.int .i64 s.L, .int .i64 s.W, .int .i64 s.S, .int .i64 s.C, .bool s.cut], .bool s.t, .bool true])) w' := by
  subst hr; exact ⟨hb, rfl⟩

abbrev stW (cable : Int) (vX vY vV : Value) (charge lo hi L W S C : Int) (cut : Bool) (k n : Int) (w : World) : World :=
  ((hoW cable vX vY vV charge lo hi w).alloc (.cells #[.int .i64 L, .int .i64 W, .int .i64 S, .int .i64 C, .bool cut] 56)).alloc (.cells #[.int .i64 k, .int .i64 n] 61)
theorem stW_below (cable : Int) (vX vY vV : Value) (charge lo hi L W S C : Int) (cut : Bool) (k n : Int) (w : World) : Below w.heap.size w (stW cable vX vY vV charge lo hi L W S C cut k n w) :=
  ((hoW_below cable vX vY vV charge lo hi w).alloc (by simp; omega) _).alloc (by simp; omega) _

set_option maxRecDepth 100000 in
set_option maxHeartbeats 6400000 in
theorem ref_Step_cut (vX vY vV : Value) (X Y : List Int) (V : List (List Int)) (cable charge lo hi L W S C : Int) (t : Bool) (k n : Int) (w : World) :
    Calls Try.prog 62 #[.agg #[.int .i64 cable, vX, vY, vV, .int .i64 charge], .agg #[.int .i64 lo, .int .i64 hi], .agg #[.int .i64 L, .int .i64 W, .int .i64 S, .int .i64 C, .bool true], .bool t, .agg #[.int .i64 k, .int .i64 n]] w
      (StepPost (refO cable X Y V charge lo hi ⟨L, W, S, C, true, t⟩ k n) w) := by
  have hd := Lib.hid (show refO cable X Y V charge lo hi ⟨L, W, S, C, true, t⟩ k n = none by simp [refO])
  have B4 := stW_below cable vX vY vV charge lo hi L W S C true k n w
  go_enter Try.func62, Try.ntmps62
  go_wp2_with fail
  refine bodyPost_ret (v := .tuple #[.agg #[.int .i64 L, .int .i64 W, .int .i64 S, .int .i64 C, .bool true], .bool t, .bool false]) (by simp [results, Try.results62, go_sem]) rfl (StepPost.no hd.out ?_ _ _ _ _ _ _)
  exact B4.alloc B4.size _

set_option maxRecDepth 100000 in
set_option maxHeartbeats 6400000 in
theorem ref_Step_3 (vX vY vV : Value) (X Y : List Int) (V : List (List Int)) (cable charge lo hi L W S C : Int) (t : Bool) (n : Int) (w : World) (hR : RT w vX vY vV X Y V) (hS0 : 0 ≤ S) (hS : S ≤ 1000000) (hC0 : 0 ≤ C) (hC : C ≤ 1000000) (hL0 : 0 ≤ L) (hL : L ≤ 1000) :
    Calls Try.prog 62 #[.agg #[.int .i64 cable, vX, vY, vV, .int .i64 charge], .agg #[.int .i64 lo, .int .i64 hi], .agg #[.int .i64 L, .int .i64 W, .int .i64 S, .int .i64 C, .bool false], .bool t, .agg #[.int .i64 3, .int .i64 n]] w
      (StepPost (refO cable X Y V charge lo hi ⟨L, W, S, C, false, t⟩ 3 n) w) := by
  have B4 := stW_below cable vX vY vV charge lo hi L W S C false 3 n w
  have z4 : (stW cable vX vY vV charge lo hi L W S C false 3 n w).heap.size = w.heap.size + 1 + 1 + 1 + 1 := by simp
  by_cases h1 : n = 0
  · subst h1
    by_cases h2 : 0 < L
    · have hd := Lib.hid (show refO cable X Y V charge lo hi ⟨L, W, S, C, false, t⟩ 3 0 = some ⟨L, W, 0, C, false, true⟩ by simp [refO, h2])
      have h2' : decide (0 < L) = true := by simpa using h2
      go_enter Try.func62, Try.ntmps62
      go_wp2_with fail
      go_region
      go_wp2_with fail
      refine bodyPost_ret (v := .tuple #[.agg #[.int .i64 L, .int .i64 W, .int .i64 0, .int .i64 C, .bool false], .bool true, .bool true]) (by simp [results, Try.results62, go_sem]) rfl (StepPost.yes hd.out ?_)
      exact ((B4.alloc B4.size _).alloc (by simp; omega) _).drew
    · have hd := Lib.hid (show refO cable X Y V charge lo hi ⟨L, W, S, C, false, t⟩ 3 0 = none by simp [refO]; omega)
      have h2' : decide (0 < L) = false := by simpa using h2
      go_enter Try.func62, Try.ntmps62
      go_wp2_with fail
      go_region
      go_wp2_with fail
      refine bodyPost_ret (v := .tuple #[.agg #[.int .i64 L, .int .i64 W, .int .i64 0, .int .i64 C, .bool false], .bool true, .bool false]) (by simp [results, Try.results62, go_sem]) rfl (StepPost.no hd.out ?_ _ _ _ _ _ _)
      exact ((B4.alloc B4.size _).alloc (by simp; omega) _).drew
  · have hd := Lib.hid (show refO cable X Y V charge lo hi ⟨L, W, S, C, false, t⟩ 3 n = none by simp [refO, h1])
    have h1' : (n == 0) = false := by simpa using h1
    go_enter Try.func62, Try.ntmps62
    go_wp2_with fail
    go_region
    go_wp2_with fail
    refine bodyPost_ret (v := .tuple #[.agg #[.int .i64 L, .int .i64 W, .int .i64 0, .int .i64 C, .bool false], .bool true, .bool false]) (by simp [results, Try.results62, go_sem]) rfl (StepPost.no hd.out ?_ _ _ _ _ _ _)
    exact ((B4.alloc B4.size _).alloc (by simp; omega) _).drew

set_option maxRecDepth 100000 in
set_option maxHeartbeats 6400000 in
theorem ref_Step_5 (vX vY vV : Value) (X Y : List Int) (V : List (List Int)) (cable charge lo hi L W S C : Int) (t : Bool) (n : Int) (w : World) (hR : RT w vX vY vV X Y V) (hS0 : 0 ≤ S) (hS : S ≤ 1000000) (hC0 : 0 ≤ C) (hC : C ≤ 1000000) (hL0 : 0 ≤ L) (hL : L ≤ 1000) :
    Calls Try.prog 62 #[.agg #[.int .i64 cable, vX, vY, vV, .int .i64 charge], .agg #[.int .i64 lo, .int .i64 hi], .agg #[.int .i64 L, .int .i64 W, .int .i64 S, .int .i64 C, .bool false], .bool t, .agg #[.int .i64 5, .int .i64 n]] w
      (StepPost (refO cable X Y V charge lo hi ⟨L, W, S, C, false, t⟩ 5 n) w) := by
  have B4 := stW_below cable vX vY vV charge lo hi L W S C false 5 n w
  have z4 : (stW cable vX vY vV charge lo hi L W S C false 5 n w).heap.size = w.heap.size + 1 + 1 + 1 + 1 := by simp
  by_cases h1 : n = 0
  · subst h1
    by_cases h2 : 0 < W
    · have hd := Lib.hid (show refO cable X Y V charge lo hi ⟨L, W, S, C, false, t⟩ 5 0 = some ⟨L, 0, S + 1, C + 1, false, t⟩ by simp [refO, h2])
      have h2' : decide (0 < W) = true := by simpa using h2
      go_enter Try.func62, Try.ntmps62
      go_wp2_with fail
      go_region
      go_wp2_with fail
      refine bodyPost_ret (v := .tuple #[.agg #[.int .i64 L, .int .i64 0, .int .i64 (S + 1), .int .i64 (C + 1), .bool false], .bool t, .bool true]) (by simp [results, Try.results62, go_sem]) rfl (StepPost.yes hd.out ?_)
      exact ((B4.alloc B4.size _).alloc (by simp; omega) _).drew
    · have hd := Lib.hid (show refO cable X Y V charge lo hi ⟨L, W, S, C, false, t⟩ 5 0 = none by simp [refO]; omega)
      have h2' : decide (0 < W) = false := by simpa using h2
      go_enter Try.func62, Try.ntmps62
      go_wp2_with fail
      go_region
      go_wp2_with fail
      refine bodyPost_ret (v := .tuple #[.agg #[.int .i64 L, .int .i64 0, .int .i64 (S + 1), .int .i64 (C + 1), .bool false], .bool t, .bool false]) (by simp [results, Try.results62, go_sem]) rfl (StepPost.no hd.out ?_ _ _ _ _ _ _)
      exact ((B4.alloc B4.size _).alloc (by simp; omega) _).drew
  · have hd := Lib.hid (show refO cable X Y V charge lo hi ⟨L, W, S, C, false, t⟩ 5 n = none by simp [refO, h1])
    have h1' : (n == 0) = false := by simpa using h1
    go_enter Try.func62, Try.ntmps62
    go_wp2_with fail
    go_region
    go_wp2_with fail
    refine bodyPost_ret (v := .tuple #[.agg #[.int .i64 L, .int .i64 0, .int .i64 (S + 1), .int .i64 (C + 1), .bool false], .bool t, .bool false]) (by simp [results, Try.results62, go_sem]) rfl (StepPost.no hd.out ?_ _ _ _ _ _ _)
    exact ((B4.alloc B4.size _).alloc (by simp; omega) _).drew

set_option maxRecDepth 100000 in
set_option maxHeartbeats 6400000 in
theorem ref_Step_6 (vX vY vV : Value) (X Y : List Int) (V : List (List Int)) (cable charge lo hi L W S C : Int) (t : Bool) (n : Int) (w : World) (hR : RT w vX vY vV X Y V) (hS0 : 0 ≤ S) (hS : S ≤ 1000000) (hC0 : 0 ≤ C) (hC : C ≤ 1000000) (hL0 : 0 ≤ L) (hL : L ≤ 1000) :
    Calls Try.prog 62 #[.agg #[.int .i64 cable, vX, vY, vV, .int .i64 charge], .agg #[.int .i64 lo, .int .i64 hi], .agg #[.int .i64 L, .int .i64 W, .int .i64 S, .int .i64 C, .bool false], .bool t, .agg #[.int .i64 6, .int .i64 n]] w
      (StepPost (refO cable X Y V charge lo hi ⟨L, W, S, C, false, t⟩ 6 n) w) := by
  have B4 := stW_below cable vX vY vV charge lo hi L W S C false 6 n w
  have z4 : (stW cable vX vY vV charge lo hi L W S C false 6 n w).heap.size = w.heap.size + 1 + 1 + 1 + 1 := by simp
  by_cases h1 : n = 0
  · subst h1
    have hd := Lib.hid (show refO cable X Y V charge lo hi ⟨L, W, S, C, false, t⟩ 6 0 = some ⟨0, 0, S + 1, C, true, t⟩ by simp [refO])
    go_enter Try.func62, Try.ntmps62
    go_wp2_with fail
    go_region
    go_wp2_with fail
    refine bodyPost_ret (v := .tuple #[.agg #[.int .i64 0, .int .i64 0, .int .i64 (S + 1), .int .i64 C, .bool true], .bool t, .bool true]) (by simp [results, Try.results62, go_sem]) rfl (StepPost.yes hd.out ?_)
    exact ((B4.alloc B4.size _).alloc (by simp; omega) _).drew
  · have hd := Lib.hid (show refO cable X Y V charge lo hi ⟨L, W, S, C, false, t⟩ 6 n = none by simp [refO, h1])
    have h1' : (n == 0) = false := by simpa using h1
    go_enter Try.func62, Try.ntmps62
    go_wp2_with fail
    go_region
    go_wp2_with fail
    refine bodyPost_ret (v := .tuple #[.agg #[.int .i64 0, .int .i64 0, .int .i64 (S + 1), .int .i64 C, .bool true], .bool t, .bool false]) (by simp [results, Try.results62, go_sem]) rfl (StepPost.no hd.out ?_ _ _ _ _ _ _)
    exact ((B4.alloc B4.size _).alloc (by simp; omega) _).drew

set_option maxRecDepth 100000 in
set_option maxHeartbeats 6400000 in
theorem ref_Step_other (vX vY vV : Value) (X Y : List Int) (V : List (List Int)) (cable charge lo hi L W S C : Int) (t : Bool) (k : Int) (n : Int) (w : World) (hR : RT w vX vY vV X Y V) (hS0 : 0 ≤ S) (hS : S ≤ 1000000) (hC0 : 0 ≤ C) (hC : C ≤ 1000000) (hL0 : 0 ≤ L) (hL : L ≤ 1000) (k1 : k ≠ 1) (k2 : k ≠ 2) (k3 : k ≠ 3) (k4 : k ≠ 4) (k5 : k ≠ 5) (k6 : k ≠ 6) :
    Calls Try.prog 62 #[.agg #[.int .i64 cable, vX, vY, vV, .int .i64 charge], .agg #[.int .i64 lo, .int .i64 hi], .agg #[.int .i64 L, .int .i64 W, .int .i64 S, .int .i64 C, .bool false], .bool t, .agg #[.int .i64 k, .int .i64 n]] w
      (StepPost (refO cable X Y V charge lo hi ⟨L, W, S, C, false, t⟩ k n) w) := by
  have B4 := stW_below cable vX vY vV charge lo hi L W S C false k n w
  have z4 : (stW cable vX vY vV charge lo hi L W S C false k n w).heap.size = w.heap.size + 1 + 1 + 1 + 1 := by simp
  have e1 : (k == 1) = false := by simpa using k1
  have e2 : (k == 2) = false := by simpa using k2
  have e3 : (k == 3) = false := by simpa using k3
  have e4 : (k == 4) = false := by simpa using k4
  have e5 : (k == 5) = false := by simpa using k5
  have e6 : (k == 6) = false := by simpa using k6
  have hd := Lib.hid (show refO cable X Y V charge lo hi ⟨L, W, S, C, false, t⟩ k n = none by simp [refO, k1, k2, k3, k4, k5, k6])
  clear k1 k2 k3 k4 k5 k6
  go_enter Try.func62, Try.ntmps62
  go_wp2_with fail
  refine bodyPost_ret (v := .tuple #[.agg #[.int .i64 L, .int .i64 W, .int .i64 S, .int .i64 C, .bool false], .bool t, .bool false]) (by simp [results, Try.results62, go_sem]) rfl (StepPost.no hd.out ?_ _ _ _ _ _ _)
  exact (B4.alloc B4.size _).alloc (by simp; omega) _

theorem within48_is {n lo hi : Int} {b : Bool} (h : wi n lo hi = b) (W : World) : Calls Try.prog 48 #[.int .i64 n, .int .i64 lo, .int .i64 hi] W fun e w' => e = .returned (.bool b) ∧ W = w' := by
  have := ref_within n lo hi W; rw [h] at this; exact this
theorem bears_is {X Y : List Int} {V : List (List Int)} {lo hi n weight : Int} {b : Bool} (h : bearB X Y V lo hi n weight = b) (vX vY vV : Value) (cable charge : Int) (w : World) (hR : RT w vX vY vV X Y V) :
    Calls Try.prog 52 #[.agg #[.int .i64 cable, vX, vY, vV, .int .i64 charge], .agg #[.int .i64 lo, .int .i64 hi], .int .i64 n, .int .i64 weight] w (AllBelow (.bool b) w) := by
  have := ref_bears vX vY vV X Y V cable charge lo hi n weight w hR
  rw [h] at this; exact this

set_option maxRecDepth 100000 in
set_option maxHeartbeats 6400000 in
theorem ref_Step_1 (vX vY vV : Value) (X Y : List Int) (V : List (List Int)) (cable charge lo hi L W S C : Int) (t : Bool) (n : Int) (w : World) (hR : RT w vX vY vV X Y V) (hS0 : 0 ≤ S) (hS : S ≤ 1000000) (hC0 : 0 ≤ C) (hC : C ≤ 1000000) (hL0 : 0 ≤ L) (hL : L ≤ 1000) :
    Calls Try.prog 62 #[.agg #[.int .i64 cable, vX, vY, vV, .int .i64 charge], .agg #[.int .i64 lo, .int .i64 hi], .agg #[.int .i64 L, .int .i64 W, .int .i64 S, .int .i64 C, .bool false], .bool t, .agg #[.int .i64 1, .int .i64 n]] w
      (StepPost (refO cable X Y V charge lo hi ⟨L, W, S, C, false, t⟩ 1 n) w) := by
  have B4 := stW_below cable vX vY vV charge lo hi L W S C false 1 n w
  have z4 : (stW cable vX vY vV charge lo hi L W S C false 1 n w).heap.size = w.heap.size + 1 + 1 + 1 + 1 := by simp
  by_cases h1 : 1 ≤ n
  · by_cases h2 : n ≤ 100
    · cases h3 : wi (L + n) 0 cable
      · have h3' : ¬ (0 ≤ L + n ∧ L + n ≤ cable) := fun e => by rw [wi_iff'.2 e] at h3; cases h3
        have hd := Lib.hid (show refO cable X Y V charge lo hi ⟨L, W, S, C, false, t⟩ 1 n = none by simp [refO]; omega)
        clear h3'
        go_enter Try.func62, Try.ntmps62
        go_wp2_with fail
        refine (within48_is h3 _).mono ?_
        rintro e w' ⟨rfl, rfl⟩
        go_wp2_with fail
        refine bodyPost_ret (v := .tuple #[.agg #[.int .i64 L, .int .i64 W, .int .i64 S, .int .i64 C, .bool false], .bool t, .bool false]) (by simp [results, Try.results62, go_sem]) rfl (StepPost.no hd.out ?_ _ _ _ _ _ _)
        exact (B4.alloc B4.size _).alloc (by simp; omega) _
      · have h3' := wi_iff'.1 h3
        by_cases h4 : 0 < W
        · cases h5 : bearB X Y V lo hi (L + n) W
          · have hd := Lib.hid (show refO cable X Y V charge lo hi ⟨L, W, S, C, false, t⟩ 1 n = none by simp [refO, h4, h5])
            go_enter Try.func62, Try.ntmps62
            go_wp2_with fail
            refine (within48_is h3 _).mono ?_
            rintro e w' ⟨rfl, rfl⟩
            go_wp2_with fail
            refine (bears_is h5 vX vY vV cable charge _ (hR.below ((B4.alloc B4.size _).alloc (by simp; omega) _))).mono ?_
            rintro e w2 ⟨rfl, hb2⟩
            obtain ⟨hc2, hf2, hs2⟩ := bcell hb2
            have E2 := ((B4.alloc B4.size _).alloc (by simp; omega) _).trans (hb2.mono (by simp; omega))
            have u0 : w.heap.size < w2.heap.size := by simp at hs2; omega
            have u1 : w.heap.size + 1 < w2.heap.size := by simp at hs2; omega
            have u2 : w.heap.size + 1 + 1 < w2.heap.size := by simp at hs2; omega
            have u3 : w.heap.size + 1 + 1 + 1 < w2.heap.size := by simp at hs2; omega
            have u4 : w.heap.size + 1 + 1 + 1 + 1 < w2.heap.size := by simp at hs2; omega
            have u5 : w.heap.size + 1 + 1 + 1 + 1 + 1 < w2.heap.size := by simp at hs2; omega
            clear hb2
            go_wp2_with fail
            refine bodyPost_ret (v := .tuple #[.agg #[.int .i64 L, .int .i64 W, .int .i64 S, .int .i64 C, .bool false], .bool t, .bool false]) (by simp [results, Try.results62, go_sem, hc2, u4]) rfl (StepPost.no hd.out ?_ _ _ _ _ _ _)
            exact set5 E2 (by omega) _ _ _ _ _
          · have hd := Lib.hid (show refO cable X Y V charge lo hi ⟨L, W, S, C, false, t⟩ 1 n = some ⟨L + n, W, S + 1, C, false, t⟩ by simp [refO, h1, h2, h3'.1, h3'.2, h5])
            go_enter Try.func62, Try.ntmps62
            go_wp2_with fail
            refine (within48_is h3 _).mono ?_
            rintro e w' ⟨rfl, rfl⟩
            go_wp2_with fail
            refine (bears_is h5 vX vY vV cable charge _ (hR.below ((B4.alloc B4.size _).alloc (by simp; omega) _))).mono ?_
            rintro e w2 ⟨rfl, hb2⟩
            obtain ⟨hc2, hf2, hs2⟩ := bcell hb2
            have E2 := ((B4.alloc B4.size _).alloc (by simp; omega) _).trans (hb2.mono (by simp; omega))
            have u0 : w.heap.size < w2.heap.size := by simp at hs2; omega
            have u1 : w.heap.size + 1 < w2.heap.size := by simp at hs2; omega
            have u2 : w.heap.size + 1 + 1 < w2.heap.size := by simp at hs2; omega
            have u3 : w.heap.size + 1 + 1 + 1 < w2.heap.size := by simp at hs2; omega
            have u4 : w.heap.size + 1 + 1 + 1 + 1 < w2.heap.size := by simp at hs2; omega
            have u5 : w.heap.size + 1 + 1 + 1 + 1 + 1 < w2.heap.size := by simp at hs2; omega
            clear hb2
            go_wp2_with fail
            refine bodyPost_ret (v := .tuple #[.agg #[.int .i64 (L + n), .int .i64 W, .int .i64 (S + 1), .int .i64 C, .bool false], .bool t, .bool true]) (by simp [results, Try.results62, go_sem, hc2, u4]) rfl (StepPost.yes hd.out ?_)
            exact set5 E2 (by omega) _ _ _ _ _
        · have hd := Lib.hid (show refO cable X Y V charge lo hi ⟨L, W, S, C, false, t⟩ 1 n = some ⟨L + n, W, S + 1, C, false, t⟩ by simp [refO, h1, h2, h3'.1, h3'.2, h4])
          go_enter Try.func62, Try.ntmps62
          go_wp2_with fail
          refine (within48_is h3 _).mono ?_
          rintro e w' ⟨rfl, rfl⟩
          go_wp2_with fail
          refine bodyPost_ret (v := .tuple #[.agg #[.int .i64 (L + n), .int .i64 W, .int .i64 (S + 1), .int .i64 C, .bool false], .bool t, .bool true]) (by simp [results, Try.results62, go_sem]) rfl (StepPost.yes hd.out ?_)
          exact (B4.alloc B4.size _).alloc (by simp; omega) _
    · have hd := Lib.hid (show refO cable X Y V charge lo hi ⟨L, W, S, C, false, t⟩ 1 n = none by simp [refO]; omega)
      go_enter Try.func62, Try.ntmps62
      go_wp2_with fail
      refine bodyPost_ret (v := .tuple #[.agg #[.int .i64 L, .int .i64 W, .int .i64 S, .int .i64 C, .bool false], .bool t, .bool false]) (by simp [results, Try.results62, go_sem]) rfl (StepPost.no hd.out ?_ _ _ _ _ _ _)
      exact (B4.alloc B4.size _).alloc (by simp; omega) _
  · have hd := Lib.hid (show refO cable X Y V charge lo hi ⟨L, W, S, C, false, t⟩ 1 n = none by simp [refO]; omega)
    go_enter Try.func62, Try.ntmps62
    go_wp2_with fail
    refine bodyPost_ret (v := .tuple #[.agg #[.int .i64 L, .int .i64 W, .int .i64 S, .int .i64 C, .bool false], .bool t, .bool false]) (by simp [results, Try.results62, go_sem]) rfl (StepPost.no hd.out ?_ _ _ _ _ _ _)
    exact (B4.alloc B4.size _).alloc (by simp; omega) _

set_option maxRecDepth 100000 in
set_option maxHeartbeats 6400000 in
theorem ref_Step_2 (vX vY vV : Value) (X Y : List Int) (V : List (List Int)) (cable charge lo hi L W S C : Int) (t : Bool) (n : Int) (w : World) (hR : RT w vX vY vV X Y V) (hS0 : 0 ≤ S) (hS : S ≤ 1000000) (hC0 : 0 ≤ C) (hC : C ≤ 1000000) (hL0 : 0 ≤ L) (hL : L ≤ 1000) :
    Calls Try.prog 62 #[.agg #[.int .i64 cable, vX, vY, vV, .int .i64 charge], .agg #[.int .i64 lo, .int .i64 hi], .agg #[.int .i64 L, .int .i64 W, .int .i64 S, .int .i64 C, .bool false], .bool t, .agg #[.int .i64 2, .int .i64 n]] w
      (StepPost (refO cable X Y V charge lo hi ⟨L, W, S, C, false, t⟩ 2 n) w) := by
  have B4 := stW_below cable vX vY vV charge lo hi L W S C false 2 n w
  have z4 : (stW cable vX vY vV charge lo hi L W S C false 2 n w).heap.size = w.heap.size + 1 + 1 + 1 + 1 := by simp
  by_cases h1 : 1 ≤ n
  · by_cases h2 : n ≤ 100
    · cases h3 : wi (L - n) 0 cable
      · have h3' : ¬ (0 ≤ L - n ∧ L - n ≤ cable) := fun e => by rw [wi_iff'.2 e] at h3; cases h3
        have hd := Lib.hid (show refO cable X Y V charge lo hi ⟨L, W, S, C, false, t⟩ 2 n = none by simp [refO]; omega)
        clear h3'
        go_enter Try.func62, Try.ntmps62
        go_wp2_with fail
        refine (within48_is h3 _).mono ?_
        rintro e w' ⟨rfl, rfl⟩
        go_wp2_with fail
        refine bodyPost_ret (v := .tuple #[.agg #[.int .i64 L, .int .i64 W, .int .i64 S, .int .i64 C, .bool false], .bool t, .bool false]) (by simp [results, Try.results62, go_sem]) rfl (StepPost.no hd.out ?_ _ _ _ _ _ _)
        exact (B4.alloc B4.size _).alloc (by simp; omega) _
      · have h3' := wi_iff'.1 h3
        by_cases h4 : 0 < W
        · cases h5 : bearB X Y V lo hi (L - n) W
          · have hd := Lib.hid (show refO cable X Y V charge lo hi ⟨L, W, S, C, false, t⟩ 2 n = none by simp [refO, h4, h5])
            go_enter Try.func62, Try.ntmps62
            go_wp2_with fail
            refine (within48_is h3 _).mono ?_
            rintro e w' ⟨rfl, rfl⟩
            go_wp2_with fail
            refine (bears_is h5 vX vY vV cable charge _ (hR.below ((B4.alloc B4.size _).alloc (by simp; omega) _))).mono ?_
            rintro e w2 ⟨rfl, hb2⟩
            obtain ⟨hc2, hf2, hs2⟩ := bcell hb2
            have E2 := ((B4.alloc B4.size _).alloc (by simp; omega) _).trans (hb2.mono (by simp; omega))
            have u0 : w.heap.size < w2.heap.size := by simp at hs2; omega
            have u1 : w.heap.size + 1 < w2.heap.size := by simp at hs2; omega
            have u2 : w.heap.size + 1 + 1 < w2.heap.size := by simp at hs2; omega
            have u3 : w.heap.size + 1 + 1 + 1 < w2.heap.size := by simp at hs2; omega
            have u4 : w.heap.size + 1 + 1 + 1 + 1 < w2.heap.size := by simp at hs2; omega
            have u5 : w.heap.size + 1 + 1 + 1 + 1 + 1 < w2.heap.size := by simp at hs2; omega
            clear hb2
            go_wp2_with fail
            refine bodyPost_ret (v := .tuple #[.agg #[.int .i64 L, .int .i64 W, .int .i64 S, .int .i64 C, .bool false], .bool t, .bool false]) (by simp [results, Try.results62, go_sem, hc2, u4]) rfl (StepPost.no hd.out ?_ _ _ _ _ _ _)
            exact set5 E2 (by omega) _ _ _ _ _
          · have hd := Lib.hid (show refO cable X Y V charge lo hi ⟨L, W, S, C, false, t⟩ 2 n = some ⟨L - n, W, S + 1, C, false, t⟩ by simp [refO, h1, h2, h3'.1, h3'.2, h5]; omega)
            go_enter Try.func62, Try.ntmps62
            go_wp2_with fail
            refine (within48_is h3 _).mono ?_
            rintro e w' ⟨rfl, rfl⟩
            go_wp2_with fail
            refine (bears_is h5 vX vY vV cable charge _ (hR.below ((B4.alloc B4.size _).alloc (by simp; omega) _))).mono ?_
            rintro e w2 ⟨rfl, hb2⟩
            obtain ⟨hc2, hf2, hs2⟩ := bcell hb2
            have E2 := ((B4.alloc B4.size _).alloc (by simp; omega) _).trans (hb2.mono (by simp; omega))
            have u0 : w.heap.size < w2.heap.size := by simp at hs2; omega
            have u1 : w.heap.size + 1 < w2.heap.size := by simp at hs2; omega
            have u2 : w.heap.size + 1 + 1 < w2.heap.size := by simp at hs2; omega
            have u3 : w.heap.size + 1 + 1 + 1 < w2.heap.size := by simp at hs2; omega
            have u4 : w.heap.size + 1 + 1 + 1 + 1 < w2.heap.size := by simp at hs2; omega
            have u5 : w.heap.size + 1 + 1 + 1 + 1 + 1 < w2.heap.size := by simp at hs2; omega
            clear hb2
            go_wp2_with fail
            refine bodyPost_ret (v := .tuple #[.agg #[.int .i64 (L - n), .int .i64 W, .int .i64 (S + 1), .int .i64 C, .bool false], .bool t, .bool true]) (by simp [results, Try.results62, go_sem, hc2, u4]) rfl (StepPost.yes hd.out ?_)
            exact set5 E2 (by omega) _ _ _ _ _
        · have hd := Lib.hid (show refO cable X Y V charge lo hi ⟨L, W, S, C, false, t⟩ 2 n = some ⟨L - n, W, S + 1, C, false, t⟩ by simp [refO, h1, h2, h3'.1, h3'.2, h4]; omega)
          go_enter Try.func62, Try.ntmps62
          go_wp2_with fail
          refine (within48_is h3 _).mono ?_
          rintro e w' ⟨rfl, rfl⟩
          go_wp2_with fail
          refine bodyPost_ret (v := .tuple #[.agg #[.int .i64 (L - n), .int .i64 W, .int .i64 (S + 1), .int .i64 C, .bool false], .bool t, .bool true]) (by simp [results, Try.results62, go_sem]) rfl (StepPost.yes hd.out ?_)
          exact (B4.alloc B4.size _).alloc (by simp; omega) _
    · have hd := Lib.hid (show refO cable X Y V charge lo hi ⟨L, W, S, C, false, t⟩ 2 n = none by simp [refO]; omega)
      go_enter Try.func62, Try.ntmps62
      go_wp2_with fail
      refine bodyPost_ret (v := .tuple #[.agg #[.int .i64 L, .int .i64 W, .int .i64 S, .int .i64 C, .bool false], .bool t, .bool false]) (by simp [results, Try.results62, go_sem]) rfl (StepPost.no hd.out ?_ _ _ _ _ _ _)
      exact (B4.alloc B4.size _).alloc (by simp; omega) _
  · have hd := Lib.hid (show refO cable X Y V charge lo hi ⟨L, W, S, C, false, t⟩ 2 n = none by simp [refO]; omega)
    go_enter Try.func62, Try.ntmps62
    go_wp2_with fail
    refine bodyPost_ret (v := .tuple #[.agg #[.int .i64 L, .int .i64 W, .int .i64 S, .int .i64 C, .bool false], .bool t, .bool false]) (by simp [results, Try.results62, go_sem]) rfl (StepPost.no hd.out ?_ _ _ _ _ _ _)
    exact (B4.alloc B4.size _).alloc (by simp; omega) _

end Go.Proofs.Ytliddinpfgpnfaa
