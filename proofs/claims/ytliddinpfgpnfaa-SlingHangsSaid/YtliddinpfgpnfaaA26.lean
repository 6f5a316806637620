/- Contracts: a step of a hoist, all kinds. -/
import Derived.Test.YtliddinpfgpnfaaA25
namespace Go.Proofs.Ytliddinpfgpnfaa
open Go Go.RowKit Go.Sort
set_option linter.unusedSimpArgs false
set_option linter.unusedVariables false

/-- A step, as the program does it; none: it is not possible. -/
def doO (cable : Int) (X Y : List Int) (V : List (List Int)) (charge lo hi : Int) (s : Hg) (k n : Int) : Option Hg :=
  if s.cut then none
  else if k = 1 then if wi n 1 cable && outB cable X Y V lo hi s.L s.W n then some { s with L := s.L + n, S := s.S + 1 } else none
  else if k = 2 then if wi n 1 cable && outB cable X Y V lo hi s.L s.W (-n) then some { s with L := s.L + -n, S := s.S + 1 } else none
  else if k = 4 then if s.W ≤ 0 ∧ s.L ≠ 0 ∧ s.t = true ∧ s.S + 1 ≤ charge ∧ wi n 1 100000 = true ∧ carB X Y V lo hi s.L s.L n = true then some { s with W := n, S := s.S + 1 } else none
  else if n ≠ 0 then none
  else if k = 3 ∧ 0 < s.L then some { s with S := 0, t := true }
  else if k = 5 ∧ 0 < s.W then some { s with W := 0, C := s.C + 1, S := s.S + 1 }
  else if k = 6 then some { s with L := 0, W := 0, cut := true, S := s.S + 1 }
  else none

def winchS (cable : Int) (vX vY vV : Value) (charge lo hi : Int) (s : Hg) : Obj := .cells (winchC cable vX vY vV charge lo hi s.L s.W s.S s.C s.cut s.t) 107 (0, 0)

def DoPost (cable : Int) (vX vY vV : Value) (charge lo hi : Int) (r : Option Hg) (g : Nat) (w : World) (e : Ending) (w' : World) : Prop :=
  e = .returned (.bool r.isSome) ∧ Below g w w' ∧ ∀ s', r = some s' → w'.heap[g]? = some (winchS cable vX vY vV charge lo hi s')

set_option maxRecDepth 100000 in
set_option maxHeartbeats 6400000 in
theorem winch_do_rest (vX vY vV : Value) (X Y : List Int) (V : List (List Int)) (cable charge lo hi L W S C : Int) (t : Bool) (k n : Int) (g : Nat) (w : World) (hR : RT w vX vY vV X Y V)
    (hg : w.heap[g]? = some (.cells (winchC cable vX vY vV charge lo hi L W S C false t) 107 (0, 0))) (s0 : 0 ≤ S) (s1 : S ≤ 1000000) (c0' : 0 ≤ C) (c1' : C ≤ 1000000) (k1 : k ≠ 1) (k2 : k ≠ 2) (k4 : k ≠ 4) :
    Calls Try.prog 61 #[.pointer (some ⟨g, 0, none⟩), .agg #[.int .i64 k, .int .i64 n]] w (DoPost cable vX vY vV charge lo hi (doO cable X Y V charge lo hi ⟨L, W, S, C, false, t⟩ k n) g w) := by
  have hlt := blk_lt hg
  obtain ⟨⟨c0, c4⟩, ⟨c7, c8, c9, c10, c11, c12⟩, ⟨f7, f8, f9, f10, f11, f12⟩⟩ := winch_cells cable vX vY vV charge lo hi L W S C false t hg
  have Hg := Lib.hid hg
  clear hg
  have e1 : (k == 1) = false := by simpa using k1
  have e2 : (k == 2) = false := by simpa using k2
  have e4 : (k == 4) = false := by simpa using k4
  by_cases hn : n = 0
  · subst hn
    by_cases k3 : k = 3
    · subst k3
      by_cases hL : 0 < L
      · have hd := Lib.hid (show doO cable X Y V charge lo hi ⟨L, W, S, C, false, t⟩ 3 0 = some ⟨L, W, 0, C, false, true⟩ by simp [doO, hL])
        go_enter Try.func61, Try.ntmps61
        go_wp2_with fail
        go_ret
        exact ⟨by rw [hd.out]; rfl, ((((Below.refl g w).setCell (Nat.le_refl _) _).setCell (Nat.le_refl _) _).setCell (Nat.le_refl _) _).alloc (by simp; omega) _, fun s' h => by rw [hd.out] at h; cases h; exact heap_alloc_old (heap_setCell_at (heap_setCell_at (heap_setCell_at (Hg.out) _) _) _)⟩
      · have hd := Lib.hid (show doO cable X Y V charge lo hi ⟨L, W, S, C, false, t⟩ 3 0 = none by simp [doO]; omega)
        go_enter Try.func61, Try.ntmps61
        go_wp2_with fail
        go_ret
        exact ⟨by rw [hd.out]; rfl, ((Below.refl g w).setCell (Nat.le_refl _) _).alloc (by simp; omega) _, fun s' h => by rw [hd.out] at h; cases h⟩
    · have e3 : (k == 3) = false := by simpa using k3
      by_cases k5 : k = 5
      · subst k5
        by_cases hW : 0 < W
        · have hd := Lib.hid (show doO cable X Y V charge lo hi ⟨L, W, S, C, false, t⟩ 5 0 = some ⟨L, 0, S + 1, C + 1, false, t⟩ by simp [doO, hW])
          go_enter Try.func61, Try.ntmps61
          go_wp2_with fail
          go_ret
          exact ⟨by rw [hd.out]; rfl, ((((Below.refl g w).setCell (Nat.le_refl _) _).setCell (Nat.le_refl _) _).setCell (Nat.le_refl _) _).alloc (by simp; omega) _, fun s' h => by rw [hd.out] at h; cases h; exact heap_alloc_old (heap_setCell_at (heap_setCell_at (heap_setCell_at (Hg.out) _) _) _)⟩
        · have hd := Lib.hid (show doO cable X Y V charge lo hi ⟨L, W, S, C, false, t⟩ 5 0 = none by simp [doO]; omega)
          go_enter Try.func61, Try.ntmps61
          go_wp2_with fail
          go_ret
          exact ⟨by rw [hd.out]; rfl, ((Below.refl g w).setCell (Nat.le_refl _) _).alloc (by simp; omega) _, fun s' h => by rw [hd.out] at h; cases h⟩
      · have e5 : (k == 5) = false := by simpa using k5
        by_cases k6 : k = 6
        · subst k6
          have hd := Lib.hid (show doO cable X Y V charge lo hi ⟨L, W, S, C, false, t⟩ 6 0 = some ⟨0, 0, S + 1, C, true, t⟩ by simp [doO])
          go_enter Try.func61, Try.ntmps61
          go_wp2_with fail
          go_ret
          exact ⟨by rw [hd.out]; rfl, (((((Below.refl g w).setCell (Nat.le_refl _) _).setCell (Nat.le_refl _) _).setCell (Nat.le_refl _) _).setCell (Nat.le_refl _) _).alloc (by simp; omega) _, fun s' h => by rw [hd.out] at h; cases h; exact heap_alloc_old (heap_setCell_at (heap_setCell_at (heap_setCell_at (heap_setCell_at (Hg.out) _) _) _) _)⟩
        · have e6 : (k == 6) = false := by simpa using k6
          have hd := Lib.hid (show doO cable X Y V charge lo hi ⟨L, W, S, C, false, t⟩ k 0 = none by simp [doO, k1, k2, k4, k3, k5, k6])
          clear k1 k2 k3 k4 k5 k6
          go_enter Try.func61, Try.ntmps61
          go_wp2_with fail
          go_ret
          exact ⟨by rw [hd.out]; rfl, ((Below.refl g w).setCell (Nat.le_refl _) _).alloc (by simp; omega) _, fun s' h => by rw [hd.out] at h; cases h⟩
  · have en : (n != 0) = true := by simpa using hn
    have hd := Lib.hid (show doO cable X Y V charge lo hi ⟨L, W, S, C, false, t⟩ k n = none by simp [doO, k1, k2, k4, hn])
    clear k1 k2 k4 hn
    go_enter Try.func61, Try.ntmps61
    go_wp2_with fail
    go_ret
    exact ⟨by rw [hd.out]; rfl, ((Below.refl g w).setCell (Nat.le_refl _) _).alloc (by simp; omega) _, fun s' h => by rw [hd.out] at h; cases h⟩

end Go.Proofs.Ytliddinpfgpnfaa
