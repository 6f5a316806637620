/- Words for the law SlingHangs: a struct of a hoist's stand stored whole, at a step of a region that draws its order. -/
import Derived.Test.YtliddinpfgpnfaaA28
import Derived.Deep.RegionHeld
namespace Go.Proofs.Ytliddinpfgpnfaa
open Go Go.RowKit Go.Sort
set_option linter.unusedSimpArgs false
set_option linter.unusedVariables false

/-- Five cells of a block stored anew. -/
def setV (w : World) (B : Nat) (a b c d : Int) (p : Bool) : World := ((((w.setCell ⟨B, 0, none⟩ (.int .i64 a)).setCell ⟨B, 1, none⟩ (.int .i64 b)).setCell ⟨B, 2, none⟩ (.int .i64 c)).setCell ⟨B, 3, none⟩ (.int .i64 d)).setCell ⟨B, 4, none⟩ (.bool p)

theorem setV_at {w : World} {B : Nat} {a b c d a' b' c' d' : Int} {p p' : Bool} {T : TypeId} (h : w.heap[B]? = some (.cells #[.int .i64 a', .int .i64 b', .int .i64 c', .int .i64 d', .bool p'] T (0, 0))) :
    (setV w B a b c d p).heap[B]? = some (.cells #[.int .i64 a, .int .i64 b, .int .i64 c, .int .i64 d, .bool p] T (0, 0)) := by
  rw [setV, heap_setCell_at (heap_setCell_at (heap_setCell_at (heap_setCell_at (heap_setCell_at h _) _) _) _) _]
  rfl

theorem setV_below {w0 w : World} {N B : Nat} (h : Below N w0 w) (hB : N ≤ B) (a b c d : Int) (p : Bool) : Below N w0 (setV w B a b c d p) :=
  ((((h.setCell hB _).setCell hB _).setCell hB _).setCell hB _).setCell hB _

set_option maxHeartbeats 3200000 in
theorem store56 (w : World) (B : Nat) (a b c d a' b' c' d' : Int) (p p' : Bool) (h : w.heap[B]? = some (.cells #[.int .i64 a', .int .i64 b', .int .i64 c', .int .i64 d', .bool p'] 56 (0, 0)))
    (o : Oper) (ac : Act) (hop : ∃ x y, o.op = .store 56 x y ∧ ac.eval x = .pointer (some ⟨B, 0, none⟩) ∧ ac.eval y = .agg #[.int .i64 a, .int .i64 b, .int .i64 c, .int .i64 d, .bool p]) (hd : o.dst = none) (hg : o.guard = none)
    {ops : Array Oper} {K : Act → World → Prop} {Q : Exit → Act → World → Prop} {E : Prop} (hK : K ac (setV w B a b c d p)) :
    if Region.wanted o (yielded ops ac.tmps) = true then Oper.wp Try.prog o ac w K Q else E := by
  have hw : Region.wanted o (yielded ops ac.tmps) = true := by simp [Region.wanted, hg]
  rw [if_pos hw]
  obtain ⟨x, y, h1, h2, h3⟩ := hop
  obtain ⟨⟨x0, x1, x2, x3, x4⟩, ⟨f0, f1, f2, f3, f4⟩⟩ := hang_cells h
  unfold Oper.wp execOp
  rw [h1]
  simp only [h2, h3]
  simp [go_sem, x0, x1, x2, x3, x4, f0, f1, f2, f3, f4]
  simp [Oper.upon, Act.put, hd]
  exact hK

end Go.Proofs.Ytliddinpfgpnfaa
