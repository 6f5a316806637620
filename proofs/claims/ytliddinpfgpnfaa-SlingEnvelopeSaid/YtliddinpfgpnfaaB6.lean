/- Words for the laws of sets: the arguments' blocks. -/
import Derived.Test.YtliddinpfgpnfaaA36
namespace Go.Proofs.Ytliddinpfgpnfaa
open Go Go.RowKit Go.Sort
set_option linter.unusedSimpArgs false
set_option linter.unusedVariables false

abbrev setsO (vb : Value) (gl gh ll lh n : Int) : Obj := .cells #[vb, .int .i64 gl, .int .i64 gh, .int .i64 ll, .int .i64 lh, .int .i64 n] 67
abbrev lwW (num damp D : Int) (vb : Value) (gl gh ll lh n : Int) (w : World) : World := (w.alloc (.cells #[.int .i64 num, .int .i64 damp, .int .i64 D] 23)).alloc (setsO vb gl gh ll lh n)

theorem lwW_below (num damp D : Int) (vb : Value) (gl gh ll lh n : Int) (w : World) : Below w.heap.size w (lwW num damp D vb gl gh ll lh n w) := ((Below.refl _ _).alloc (Nat.le_refl _) _).alloc (by simp) _

theorem lwW_cells {num damp D gl gh ll lh n : Int} {vb : Value} {w wr : World} (h : Below (w.heap.size + 1 + 1) (lwW num damp D vb gl gh ll lh n w) wr) :
    (wr.cell? ⟨w.heap.size, 0, none⟩ = some (.int .i64 num) ∧ wr.cell? ⟨w.heap.size, 1, none⟩ = some (.int .i64 damp) ∧ wr.cell? ⟨w.heap.size, 2, none⟩ = some (.int .i64 D)) ∧
    (wr.cell? ⟨w.heap.size + 1, 0, none⟩ = some vb ∧ wr.cell? ⟨w.heap.size + 1, 1, none⟩ = some (.int .i64 gl) ∧ wr.cell? ⟨w.heap.size + 1, 2, none⟩ = some (.int .i64 gh) ∧ wr.cell? ⟨w.heap.size + 1, 3, none⟩ = some (.int .i64 ll) ∧ wr.cell? ⟨w.heap.size + 1, 4, none⟩ = some (.int .i64 lh) ∧ wr.cell? ⟨w.heap.size + 1, 5, none⟩ = some (.int .i64 n)) ∧
    w.heap.size < wr.heap.size ∧ w.heap.size + 1 < wr.heap.size := by
  have h0 := (h.block w.heap.size (by omega)).trans ((Below.heap_alloc _ _ _ (by simp)).trans (heap_alloc_new w _))
  have e1 : (lwW num damp D vb gl gh ll lh n w).heap[w.heap.size + 1]? = some (.cells #[vb, .int .i64 gl, .int .i64 gh, .int .i64 ll, .int .i64 lh, .int .i64 n] 67 (0, 0)) := by
    have := heap_alloc_new (w.alloc (.cells #[.int .i64 num, .int .i64 damp, .int .i64 D] 23)) (setsO vb gl gh ll lh n)
    rwa [show (w.alloc (.cells #[.int .i64 num, .int .i64 damp, .int .i64 D] 23)).heap.size = w.heap.size + 1 by simp] at this
  have h1 := (h.block (w.heap.size + 1) (by omega)).trans e1
  refine ⟨?_, ?_, hp_lt h0, hp_lt h1⟩
  · simp [blk_cells h0]
  · simp [blk_cells h1]

end Go.Proofs.Ytliddinpfgpnfaa
