/- Openers of the arguments' types: what came in, written out with what it reads as. -/
import Derived.Test.YtliddinpfgpnfaaB3
import Derived.WideShapes
import Derived.KernelRfl
namespace Go.Proofs.Ytliddinpfgpnfaa
open Go Go.RowKit Go.Sort Go.ChangeShapes Go.WideShapes
set_option linter.unusedSimpArgs false
set_option linter.unusedVariables false
set_option linter.constructorNameAsVariable false

theorem len3 {α : Type} {l : List α} (h : l.length = 3) : ∃ c0 c1 c2, l = [c0, c1, c2] := by
  match l, h with
  | [c0, c1, c2], _ => exact ⟨c0, c1, c2, rfl⟩
theorem len6 {α : Type} {l : List α} (h : l.length = 6) : ∃ c0 c1 c2 c3 c4 c5, l = [c0, c1, c2, c3, c4, c5] := by
  match l, h with
  | [c0, c1, c2, c3, c4, c5], _ => exact ⟨c0, c1, c2, c3, c4, c5, rfl⟩
theorem cellsOf3 : Try.prog.cellsOf 3 = 1 := by kernel_rfl
theorem cellsOf23 : Try.prog.cellsOf 23 = 3 := by kernel_rfl
theorem cellsOf24 : Try.prog.cellsOf 24 = 2 := by kernel_rfl
theorem cellsOf25 : Try.prog.cellsOf 25 = 1 := by kernel_rfl
theorem cellsOf27 : Try.prog.cellsOf 27 = 2 := by kernel_rfl
theorem cellsOf29 : Try.prog.cellsOf 29 = 6 := by kernel_rfl
theorem cellsOf65 : Try.prog.cellsOf 65 = 1 := by kernel_rfl
theorem cellsOf67 : Try.prog.cellsOf 67 = 6 := by kernel_rfl

set_option maxRecDepth 100000 in
theorem open23 {H : Type} {enc : TypeId × Value → H} {W : World} {base : Nat} {v : Value} (hv : Value.okWide Try.prog W .any base 23 v) (g : Gd enc Try.prog W 0 (fun _ => true) true 23 v.cells.toList) :
    ∃ (x0 : Int) (x1 : Int) (x2 : Int), v = .agg #[.int .i64 x0, .int .i64 x1, .int .i64 x2] ∧ (Lit.int .i64 x0).wf = true ∧ (Lit.int .i64 x1).wf = true ∧ (Lit.int .i64 x2).wf = true := by
  obtain ⟨cs, rfl, hsz⟩ := okWide_struct Try.underlying23 hv
  obtain ⟨cs⟩ := cs
  rw [cellsOf23] at hsz
  obtain ⟨c0, c1, c2, rfl⟩ := len3 (show cs.length = 3 from hsz)
  simp only [Value.cells] at g
  have g_0 := g.fieldAt Try.underlying23 0 rfl 3 0 1 rfl rfl cellsOf3
  simp only [List.drop_succ_cons, List.drop_zero, List.take_succ_cons, List.take_zero] at g_0
  obtain ⟨x0, e0, w0⟩ := g_0.int Try.underlying3
  cases e0
  have g_1 := g.fieldAt Try.underlying23 1 rfl 3 1 1 rfl rfl cellsOf3
  simp only [List.drop_succ_cons, List.drop_zero, List.take_succ_cons, List.take_zero] at g_1
  obtain ⟨x1, e1, w1⟩ := g_1.int Try.underlying3
  cases e1
  have g_2 := g.fieldAt Try.underlying23 2 rfl 3 2 1 rfl rfl cellsOf3
  simp only [List.drop_succ_cons, List.drop_zero, List.take_succ_cons, List.take_zero] at g_2
  obtain ⟨x2, e2, w2⟩ := g_2.int Try.underlying3
  cases e2
  exact ⟨x0, x1, x2, rfl, w0, w1, w2⟩

set_option maxRecDepth 100000 in
theorem open67 {H : Type} {enc : TypeId × Value → H} {W : World} {base : Nat} {v : Value} (hv : Value.okWide Try.prog W .any base 67 v) (g : Gd enc Try.prog W 0 (fun _ => true) true 67 v.cells.toList) :
    ∃ (v0 : Value) (l0 : List (Int × Int)) (x1 : Int) (x2 : Int) (x3 : Int) (x4 : Int) (x5 : Int), v = .agg #[v0, .int .i64 x1, .int .i64 x2, .int .i64 x3, .int .i64 x4, .int .i64 x5] ∧ RS W v0 2 l0.length (prs l0) ∧ l0.length * 16 ≤ reachBytes ∧ (∀ p ∈ l0, (Lit.int .i64 p.1).wf = true ∧ (Lit.int .i64 p.2).wf = true) ∧ (Lit.int .i64 x1).wf = true ∧ (Lit.int .i64 x2).wf = true ∧ (Lit.int .i64 x3).wf = true ∧ (Lit.int .i64 x4).wf = true ∧ (Lit.int .i64 x5).wf = true := by
  obtain ⟨cs, rfl, hsz⟩ := okWide_struct Try.underlying67 hv
  obtain ⟨cs⟩ := cs
  rw [cellsOf67] at hsz
  obtain ⟨c0, c1, c2, c3, c4, c5, rfl⟩ := len6 (show cs.length = 6 from hsz)
  simp only [Value.cells] at g
  have g_0 := g.fieldAt Try.underlying67 0 rfl 65 0 1 rfl rfl cellsOf65
  simp only [List.drop_succ_cons, List.drop_zero, List.take_succ_cons, List.take_zero] at g_0
  obtain ⟨v0, l0, e0, r0, s0, b0⟩ := g_0.pairs Try.underlying65 Try.underlying27 (by kernel_rfl) (by kernel_rfl) Try.underlying3 Try.underlying3 rfl rfl (by kernel_rfl) (by kernel_rfl)
  cases e0
  have g_1 := g.fieldAt Try.underlying67 1 rfl 27 1 2 rfl rfl cellsOf27
  simp only [List.drop_succ_cons, List.drop_zero, List.take_succ_cons, List.take_zero] at g_1
  have g_1_0 := g_1.fieldAt Try.underlying27 0 rfl 3 0 1 rfl rfl cellsOf3
  simp only [List.drop_succ_cons, List.drop_zero, List.take_succ_cons, List.take_zero] at g_1_0
  obtain ⟨x1, e1, w1⟩ := g_1_0.int Try.underlying3
  cases e1
  have g_1_1 := g_1.fieldAt Try.underlying27 1 rfl 3 1 1 rfl rfl cellsOf3
  simp only [List.drop_succ_cons, List.drop_zero, List.take_succ_cons, List.take_zero] at g_1_1
  obtain ⟨x2, e2, w2⟩ := g_1_1.int Try.underlying3
  cases e2
  have g_2 := g.fieldAt Try.underlying67 2 rfl 27 3 2 rfl rfl cellsOf27
  simp only [List.drop_succ_cons, List.drop_zero, List.take_succ_cons, List.take_zero] at g_2
  have g_2_0 := g_2.fieldAt Try.underlying27 0 rfl 3 0 1 rfl rfl cellsOf3
  simp only [List.drop_succ_cons, List.drop_zero, List.take_succ_cons, List.take_zero] at g_2_0
  obtain ⟨x3, e3, w3⟩ := g_2_0.int Try.underlying3
  cases e3
  have g_2_1 := g_2.fieldAt Try.underlying27 1 rfl 3 1 1 rfl rfl cellsOf3
  simp only [List.drop_succ_cons, List.drop_zero, List.take_succ_cons, List.take_zero] at g_2_1
  obtain ⟨x4, e4, w4⟩ := g_2_1.int Try.underlying3
  cases e4
  have g_3 := g.fieldAt Try.underlying67 3 rfl 3 5 1 rfl rfl cellsOf3
  simp only [List.drop_succ_cons, List.drop_zero, List.take_succ_cons, List.take_zero] at g_3
  obtain ⟨x5, e5, w5⟩ := g_3.int Try.underlying3
  cases e5
  exact ⟨_, l0, x1, x2, x3, x4, x5, rfl, r0, s0, b0, w1, w2, w3, w4, w5⟩

set_option maxRecDepth 100000 in
theorem open29 {H : Type} {enc : TypeId × Value → H} {W : World} {base : Nat} {v : Value} (hv : Value.okWide Try.prog W .any base 29 v) (g : Gd enc Try.prog W 0 (fun _ => true) true 29 v.cells.toList) :
    ∃ (x0 : Int) (x1 : Int) (v2 : Value) (l2 : List Int) (x3 : Int) (x4 : Int) (x5 : Int), v = .agg #[.int .i64 x0, .int .i64 x1, v2, .int .i64 x3, .int .i64 x4, .int .i64 x5] ∧ (Lit.int .i64 x0).wf = true ∧ (Lit.int .i64 x1).wf = true ∧ RI W v2 l2 ∧ l2.length * 8 ≤ reachBytes ∧ (∀ z ∈ l2, (Lit.int .i64 z).wf = true) ∧ (Lit.int .i64 x3).wf = true ∧ (Lit.int .i64 x4).wf = true ∧ (Lit.int .i64 x5).wf = true := by
  obtain ⟨cs, rfl, hsz⟩ := okWide_struct Try.underlying29 hv
  obtain ⟨cs⟩ := cs
  rw [cellsOf29] at hsz
  obtain ⟨c0, c1, c2, c3, c4, c5, rfl⟩ := len6 (show cs.length = 6 from hsz)
  simp only [Value.cells] at g
  have g_0 := g.fieldAt Try.underlying29 0 rfl 24 0 2 rfl rfl cellsOf24
  simp only [List.drop_succ_cons, List.drop_zero, List.take_succ_cons, List.take_zero] at g_0
  have g_0_0 := g_0.partAt Try.underlying24 0 0 1 (by omega) cellsOf3 rfl
  simp only [List.drop_succ_cons, List.drop_zero, List.take_succ_cons, List.take_zero] at g_0_0
  obtain ⟨x0, e0, w0⟩ := g_0_0.int Try.underlying3
  cases e0
  have g_0_1 := g_0.partAt Try.underlying24 1 1 1 (by omega) cellsOf3 rfl
  simp only [List.drop_succ_cons, List.drop_zero, List.take_succ_cons, List.take_zero] at g_0_1
  obtain ⟨x1, e1, w1⟩ := g_0_1.int Try.underlying3
  cases e1
  have g_1 := g.fieldAt Try.underlying29 1 rfl 25 2 1 rfl rfl cellsOf25
  simp only [List.drop_succ_cons, List.drop_zero, List.take_succ_cons, List.take_zero] at g_1
  obtain ⟨v2, l2, e2, r2, s2, b2⟩ := g_1.ints Try.underlying25 Try.underlying3 (by kernel_rfl) (by kernel_rfl)
  cases e2
  have g_2 := g.fieldAt Try.underlying29 2 rfl 3 3 1 rfl rfl cellsOf3
  simp only [List.drop_succ_cons, List.drop_zero, List.take_succ_cons, List.take_zero] at g_2
  obtain ⟨x3, e3, w3⟩ := g_2.int Try.underlying3
  cases e3
  have g_3 := g.fieldAt Try.underlying29 3 rfl 27 4 2 rfl rfl cellsOf27
  simp only [List.drop_succ_cons, List.drop_zero, List.take_succ_cons, List.take_zero] at g_3
  have g_3_0 := g_3.fieldAt Try.underlying27 0 rfl 3 0 1 rfl rfl cellsOf3
  simp only [List.drop_succ_cons, List.drop_zero, List.take_succ_cons, List.take_zero] at g_3_0
  obtain ⟨x4, e4, w4⟩ := g_3_0.int Try.underlying3
  cases e4
  have g_3_1 := g_3.fieldAt Try.underlying27 1 rfl 3 1 1 rfl rfl cellsOf3
  simp only [List.drop_succ_cons, List.drop_zero, List.take_succ_cons, List.take_zero] at g_3_1
  obtain ⟨x5, e5, w5⟩ := g_3_1.int Try.underlying3
  cases e5
  exact ⟨x0, x1, _, l2, x3, x4, x5, rfl, w0, w1, r2, s2, b2, w3, w4, w5⟩

end Go.Proofs.Ytliddinpfgpnfaa
