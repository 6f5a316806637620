/- Contracts: a step of a hoist. -/
import Derived.Test.YtliddinpfgpnfaaL7
namespace Go.Proofs.Ytliddinpfgpnfaa
open Go Go.RowKit Go.Sort
set_option linter.unusedSimpArgs false
set_option linter.unusedVariables false

/-- How a hoist stands. -/
structure Hg where
  L : Int
  W : Int
  S : Int
  C : Int
  cut : Bool
  t : Bool

/-- Whether the length may change by n. -/
def outB (cable : Int) (X Y : List Int) (V : List (List Int)) (lo hi L W n : Int) : Bool := wi (L + n) 0 cable && carB X Y V lo hi (L + n) (L + n) W

theorem blk_lt {w : World} {g : Nat} {o : Obj} (h : w.heap[g]? = some o) : g < w.heap.size := by
  rcases Nat.lt_or_ge g w.heap.size with q | q
  · exact q
  · rw [Array.getElem?_eq_none q] at h; cases h

section
variable (cable : Int) (vX vY vV : Value) (charge lo hi L W S C : Int) (cut t : Bool)
theorem winch_cells {w : World} {g : Nat} (h : w.heap[g]? = some (.cells (winchC cable vX vY vV charge lo hi L W S C cut t) 107 (0, 0))) :
    (w.cell? ⟨g, 0, none⟩ = some (.int .i64 cable) ∧ w.cell? ⟨g, 4, none⟩ = some (.int .i64 charge)) ∧ (w.cell? ⟨g, 7, none⟩ = some (.int .i64 L) ∧ w.cell? ⟨g, 8, none⟩ = some (.int .i64 W) ∧ w.cell? ⟨g, 9, none⟩ = some (.int .i64 S) ∧
    w.cell? ⟨g, 10, none⟩ = some (.int .i64 C) ∧ w.cell? ⟨g, 11, none⟩ = some (.bool cut) ∧ w.cell? ⟨g, 12, none⟩ = some (.bool t)) ∧
    (w.frozen? ⟨g, 7, none⟩ = false ∧ w.frozen? ⟨g, 8, none⟩ = false ∧ w.frozen? ⟨g, 9, none⟩ = false ∧ w.frozen? ⟨g, 10, none⟩ = false ∧ w.frozen? ⟨g, 11, none⟩ = false ∧ w.frozen? ⟨g, 12, none⟩ = false) :=
  ⟨⟨(blk_cells h 0).1, (blk_cells h 4).1⟩, ⟨(blk_cells h 7).1, (blk_cells h 8).1, (blk_cells h 9).1, (blk_cells h 10).1, (blk_cells h 11).1, (blk_cells h 12).1⟩, ⟨(blk_cells h 7).2, (blk_cells h 8).2, (blk_cells h 9).2, (blk_cells h 10).2, (blk_cells h 11).2, (blk_cells h 12).2⟩⟩
end

def OutPost (cable : Int) (vX vY vV : Value) (X Y : List Int) (V : List (List Int)) (charge lo hi L W S C : Int) (cut t : Bool) (n : Int) (g : Nat) (w : World) (e : Ending) (w' : World) : Prop :=
  e = .returned (.bool (outB cable X Y V lo hi L W n)) ∧ Below g w w' ∧ w'.heap[g]? = some (.cells (winchC cable vX vY vV charge lo hi (if outB cable X Y V lo hi L W n then L + n else L) W S C cut t) 107 (0, 0))

set_option maxRecDepth 100000 in
set_option maxHeartbeats 6400000 in
theorem winch_out (vX vY vV : Value) (X Y : List Int) (V : List (List Int)) (cable charge lo hi L W S C : Int) (cut t : Bool) (n : Int) (g : Nat) (w : World) (hR : RT w vX vY vV X Y V)
    (hg : w.heap[g]? = some (.cells (winchC cable vX vY vV charge lo hi L W S C cut t) 107 (0, 0))) (l0 : 0 ≤ L) (l1 : L ≤ 1000) (n0 : -1000 ≤ n) (n1 : n ≤ 1000) :
    Calls Try.prog 89 #[.pointer (some ⟨g, 0, none⟩), .int .i64 n] w (OutPost cable vX vY vV X Y V charge lo hi L W S C cut t n g w) := by
  have hlt := blk_lt hg
  obtain ⟨⟨c0, c4⟩, ⟨c7, c8, -, -, -, -⟩, ⟨f7, -⟩⟩ := winch_cells cable vX vY vV charge lo hi L W S C cut t hg
  have s1 : IntKind.i64.wrap (L + n) = L + n := IntWalk.i64_in _ (by omega)
  have HG := Lib.hid (fun (d : Nat) (os : Array Obj) => show (grow (redrawn w d) os).heap[g]? = some (.cells (winchC cable vX vY vV charge lo hi L W S C cut t) 107 (0, 0)) by rw [(below_regrown w d os).block g hlt]; exact hg)
  have Hg := Lib.hid hg
  have HO := Lib.hid (show outB cable X Y V lo hi L W n = (wi (L + n) 0 cable && carB X Y V lo hi (L + n) (L + n) W) from rfl)
  clear hg
  cases h1 : wi (L + n) 0 cable
  · go_enter Try.func89, Try.ntmps89
    go_wp2_with fail
    refine rg_all (by kernel_rfl) (by kernel_rfl) ?_
    repeat (go_big_quiet_step ((first | (go_at_call 45; exact Calls.rg_same (sling_within _ _ _ _)))))
    refine wpQuiet_nil ?_
    intro w1 hw1
    have F1 := rg_below hw1
    clear hw1
    go_wp2_with fail
    go_ret
    have ho : outB cable X Y V lo hi L W n = false := by rw [HO.out, h1]; rfl
    exact ⟨ret_bool ho.symm, F1.mono (by omega), by rw [F1.block g hlt, Hg.out, ho]; rfl⟩
  · cases h2 : carB X Y V lo hi (L + n) (L + n) W
    all_goals
      go_enter Try.func89, Try.ntmps89
      go_wp2_with fail
      refine rg_all (by kernel_rfl) (by kernel_rfl) ?_
      repeat (go_big_quiet_step ((first
        | (go_at_call 45; exact Calls.rg_same (sling_within _ _ _ _))
        | (go_at_call 51; exact Calls.regrown_of (sling_at _ _))
        | (go_at_call 50; exact Calls.regrown_of (winch_carries vX vY vV X Y V cable charge lo hi L W S C cut t (L + n) (L + n) W g _ (hR.below (below_regrown _ _ _)) (HG.out _ _))))))
      refine wpQuiet_nil ?_
      intro w1 hw1
      have F1 := rg_below hw1
      clear hw1
      obtain ⟨hc1, hf1, hs1⟩ := bcell F1
      have u1 : g < w1.heap.size := by omega
      have B1 : w1.heap[g]? = some (.cells (winchC cable vX vY vV charge lo hi L W S C cut t) 107 (0, 0)) := by rw [F1.block g hlt]; exact Hg.out
      have HB1 := Lib.hid B1
      clear B1 s1
      go_wp2_with fail
    · go_ret
      have ho : outB cable X Y V lo hi L W n = false := by rw [HO.out, h1, h2]; rfl
      exact ⟨ret_bool ho.symm, F1.mono (by omega), by rw [HB1.out, ho]; rfl⟩
    · go_ret
      have ho : outB cable X Y V lo hi L W n = true := by rw [HO.out, h1, h2]; rfl
      have F2 : Below g w w1 := F1.mono (by omega)
      exact ⟨ret_bool ho.symm, F2.setCell (Nat.le_refl _) _, by rw [heap_setCell_at HB1.out, ho]; rfl⟩

end Go.Proofs.Ytliddinpfgpnfaa
