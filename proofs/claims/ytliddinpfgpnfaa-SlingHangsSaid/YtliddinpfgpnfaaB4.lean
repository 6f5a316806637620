/- Openers of the arguments' types: what came in, written out with what it reads as. -/
import Derived.Test.YtliddinpfgpnfaaB3
import Derived.WideShapes
import Derived.KernelRfl
namespace Go.Proofs.Ytliddinpfgpnfaa
open Go Go.RowKit Go.Sort Go.ChangeShapes Go.WideShapes
set_option linter.unusedSimpArgs false
set_option linter.unusedVariables false
set_option linter.constructorNameAsVariable false

theorem len2 {α : Type} {l : List α} (h : l.length = 2) : ∃ c0 c1, l = [c0, c1] := by
  match l, h with
  | [c0, c1], _ => exact ⟨c0, c1, rfl⟩
theorem len3 {α : Type} {l : List α} (h : l.length = 3) : ∃ c0 c1 c2, l = [c0, c1, c2] := by
  match l, h with
  | [c0, c1, c2], _ => exact ⟨c0, c1, c2, rfl⟩
theorem len5 {α : Type} {l : List α} (h : l.length = 5) : ∃ c0 c1 c2 c3 c4, l = [c0, c1, c2, c3, c4] := by
  match l, h with
  | [c0, c1, c2, c3, c4], _ => exact ⟨c0, c1, c2, c3, c4, rfl⟩
theorem len6 {α : Type} {l : List α} (h : l.length = 6) : ∃ c0 c1 c2 c3 c4 c5, l = [c0, c1, c2, c3, c4, c5] := by
  match l, h with
  | [c0, c1, c2, c3, c4, c5], _ => exact ⟨c0, c1, c2, c3, c4, c5, rfl⟩
theorem cellsOf3 : Try.prog.cellsOf 3 = 1 := by kernel_rfl
theorem cellsOf23 : Try.prog.cellsOf 23 = 3 := by kernel_rfl
theorem cellsOf24 : Try.prog.cellsOf 24 = 2 := by kernel_rfl
theorem cellsOf25 : Try.prog.cellsOf 25 = 1 := by kernel_rfl
theorem cellsOf27 : Try.prog.cellsOf 27 = 2 := by kernel_rfl
theorem cellsOf29 : Try.prog.cellsOf 29 = 6 := by kernel_rfl
theorem cellsOf38 : Try.prog.cellsOf 38 = 1 := by kernel_rfl
theorem cellsOf40 : Try.prog.cellsOf 40 = 3 := by kernel_rfl
theorem cellsOf42 : Try.prog.cellsOf 42 = 5 := by kernel_rfl
theorem cellsOf44 : Try.prog.cellsOf 44 = 2 := by kernel_rfl

set_option maxRecDepth 100000 in
theorem open23 {H : Type} {enc : TypeId × Value → H} {W : World} {base : Nat} {v : Value} (hv : Value.okWide Try.prog W .any base 23 v) (g : Gd enc Try.prog W 0 (fun _ => true) true 23 v.cells.toList) :
    ∃ (x0 : Int) (x1 : Int) (x2 : Int), v = .agg #[.int .i64 x0, .int .i64 x1, .int .i64 x2] ∧ (Lit.int .i64 x0).wf = true ∧ (Lit.int .i64 x1).wf = true ∧ (Lit.int .i64 x2).wf = true := by
  obtain ⟨cs, rfl, hsz⟩ := okWide_struct Try.underlying23 hv
  obtain ⟨cs⟩ := cs
  rw [cellsOf23] at hsz
  obtain ⟨c0, c1, c2, rfl⟩ := len3 (show cs.length = 3 from hsz)
  simp only [Value.cells] at g
  have g_0 := g.fieldAt Try.underlying23 0 rfl 3 0 1 rfl rfl cellsOf3
  simp only [List.drop_succ_cons, List.drop_zero, List.take_succ_cons, List.take_zero] at g_0
  obtain ⟨x0, e0, w0⟩ := g_0.int Try.underlying3
  cases e0
  have g_1 := g.fieldAt Try.underlying23 1 rfl 3 1 1 rfl rfl cellsOf3
  simp only [List.drop_succ_cons, List.drop_zero, List.take_succ_cons, List.take_zero] at g_1
  obtain ⟨x1, e1, w1⟩ := g_1.int Try.underlying3
  cases e1
  have g_2 := g.fieldAt Try.underlying23 2 rfl 3 2 1 rfl rfl cellsOf3
  simp only [List.drop_succ_cons, List.drop_zero, List.take_succ_cons, List.take_zero] at g_2
  obtain ⟨x2, e2, w2⟩ := g_2.int Try.underlying3
  cases e2
  exact ⟨x0, x1, x2, rfl, w0, w1, w2⟩

set_option maxRecDepth 100000 in
theorem open27 {H : Type} {enc : TypeId × Value → H} {W : World} {base : Nat} {v : Value} (hv : Value.okWide Try.prog W .any base 27 v) (g : Gd enc Try.prog W 0 (fun _ => true) true 27 v.cells.toList) :
    ∃ (x0 : Int) (x1 : Int), v = .agg #[.int .i64 x0, .int .i64 x1] ∧ (Lit.int .i64 x0).wf = true ∧ (Lit.int .i64 x1).wf = true := by
  obtain ⟨cs, rfl, hsz⟩ := okWide_struct Try.underlying27 hv
  obtain ⟨cs⟩ := cs
  rw [cellsOf27] at hsz
  obtain ⟨c0, c1, rfl⟩ := len2 (show cs.length = 2 from hsz)
  simp only [Value.cells] at g
  have g_0 := g.fieldAt Try.underlying27 0 rfl 3 0 1 rfl rfl cellsOf3
  simp only [List.drop_succ_cons, List.drop_zero, List.take_succ_cons, List.take_zero] at g_0
  obtain ⟨x0, e0, w0⟩ := g_0.int Try.underlying3
  cases e0
  have g_1 := g.fieldAt Try.underlying27 1 rfl 3 1 1 rfl rfl cellsOf3
  simp only [List.drop_succ_cons, List.drop_zero, List.take_succ_cons, List.take_zero] at g_1
  obtain ⟨x1, e1, w1⟩ := g_1.int Try.underlying3
  cases e1
  exact ⟨x0, x1, rfl, w0, w1⟩

set_option maxRecDepth 100000 in
theorem open29 {H : Type} {enc : TypeId × Value → H} {W : World} {base : Nat} {v : Value} (hv : Value.okWide Try.prog W .any base 29 v) (g : Gd enc Try.prog W 0 (fun _ => true) true 29 v.cells.toList) :
    ∃ (x0 : Int) (x1 : Int) (v2 : Value) (l2 : List Int) (x3 : Int) (x4 : Int) (x5 : Int), v = .agg #[.int .i64 x0, .int .i64 x1, v2, .int .i64 x3, .int .i64 x4, .int .i64 x5] ∧ (Lit.int .i64 x0).wf = true ∧ (Lit.int .i64 x1).wf = true ∧ RI W v2 l2 ∧ l2.length * 8 ≤ reachBytes ∧ (∀ z ∈ l2, (Lit.int .i64 z).wf = true) ∧ (Lit.int .i64 x3).wf = true ∧ (Lit.int .i64 x4).wf = true ∧ (Lit.int .i64 x5).wf = true := by
  obtain ⟨cs, rfl, hsz⟩ := okWide_struct Try.underlying29 hv
  obtain ⟨cs⟩ := cs
  rw [cellsOf29] at hsz
  obtain ⟨c0, c1, c2, c3, c4, c5, rfl⟩ := len6 (show cs.length = 6 from hsz)
  simp only [Value.cells] at g
  have g_0 := g.fieldAt Try.underlying29 0 rfl 24 0 2 rfl rfl cellsOf24
  simp only [List.drop_succ_cons, List.drop_zero, List.take_succ_cons, List.take_zero] at g_0
  have g_0_0 := g_0.partAt Try.underlying24 0 0 1 (by omega) cellsOf3 rfl
  simp only [List.drop_succ_cons, List.drop_zero, List.take_succ_cons, List.take_zero] at g_0_0
  obtain ⟨x0, e0, w0⟩ := g_0_0.int Try.underlying3
  cases e0
  have g_0_1 := g_0.partAt Try.underlying24 1 1 1 (by omega) cellsOf3 rfl
  simp only [List.drop_succ_cons, List.drop_zero, List.take_succ_cons, List.take_zero] at g_0_1
  obtain ⟨x1, e1, w1⟩ := g_0_1.int Try.underlying3
  cases e1
  have g_1 := g.fieldAt Try.underlying29 1 rfl 25 2 1 rfl rfl cellsOf25
  simp only [List.drop_succ_cons, List.drop_zero, List.take_succ_cons, List.take_zero] at g_1
  obtain ⟨v2, l2, e2, r2, s2, b2⟩ := g_1.ints Try.underlying25 Try.underlying3 (by kernel_rfl) (by kernel_rfl)
  cases e2
  have g_2 := g.fieldAt Try.underlying29 2 rfl 3 3 1 rfl rfl cellsOf3
  simp only [List.drop_succ_cons, List.drop_zero, List.take_succ_cons, List.take_zero] at g_2
  obtain ⟨x3, e3, w3⟩ := g_2.int Try.underlying3
  cases e3
  have g_3 := g.fieldAt Try.underlying29 3 rfl 27 4 2 rfl rfl cellsOf27
  simp only [List.drop_succ_cons, List.drop_zero, List.take_succ_cons, List.take_zero] at g_3
  have g_3_0 := g_3.fieldAt Try.underlying27 0 rfl 3 0 1 rfl rfl cellsOf3
  simp only [List.drop_succ_cons, List.drop_zero, List.take_succ_cons, List.take_zero] at g_3_0
  obtain ⟨x4, e4, w4⟩ := g_3_0.int Try.underlying3
  cases e4
  have g_3_1 := g_3.fieldAt Try.underlying27 1 rfl 3 1 1 rfl rfl cellsOf3
  simp only [List.drop_succ_cons, List.drop_zero, List.take_succ_cons, List.take_zero] at g_3_1
  obtain ⟨x5, e5, w5⟩ := g_3_1.int Try.underlying3
  cases e5
  exact ⟨x0, x1, _, l2, x3, x4, x5, rfl, w0, w1, r2, s2, b2, w3, w4, w5⟩

set_option maxRecDepth 100000 in
theorem open42 {H : Type} {enc : TypeId × Value → H} {W : World} {base : Nat} {v : Value} (hv : Value.okWide Try.prog W .any base 42 v) (g : Gd enc Try.prog W 0 (fun _ => true) true 42 v.cells.toList) :
    ∃ (x0 : Int) (v1 : Value) (l1 : List Int) (v2 : Value) (l2 : List Int) (v3 : Value) (l3 : List (List Int)) (x4 : Int), v = .agg #[.int .i64 x0, v1, v2, v3, .int .i64 x4] ∧ (Lit.int .i64 x0).wf = true ∧ RI W v1 l1 ∧ l1.length * 8 ≤ reachBytes ∧ (∀ z ∈ l1, (Lit.int .i64 z).wf = true) ∧ RI W v2 l2 ∧ l2.length * 8 ≤ reachBytes ∧ (∀ z ∈ l2, (Lit.int .i64 z).wf = true) ∧ RII W v3 l3 ∧ l3.length * 24 ≤ reachBytes ∧ (∀ zs ∈ l3, zs.length * 8 ≤ reachBytes ∧ ∀ z ∈ zs, (Lit.int .i64 z).wf = true) ∧ (Lit.int .i64 x4).wf = true := by
  obtain ⟨cs, rfl, hsz⟩ := okWide_struct Try.underlying42 hv
  obtain ⟨cs⟩ := cs
  rw [cellsOf42] at hsz
  obtain ⟨c0, c1, c2, c3, c4, rfl⟩ := len5 (show cs.length = 5 from hsz)
  simp only [Value.cells] at g
  have g_0 := g.fieldAt Try.underlying42 0 rfl 3 0 1 rfl rfl cellsOf3
  simp only [List.drop_succ_cons, List.drop_zero, List.take_succ_cons, List.take_zero] at g_0
  obtain ⟨x0, e0, w0⟩ := g_0.int Try.underlying3
  cases e0
  have g_1 := g.fieldAt Try.underlying42 1 rfl 40 1 3 rfl rfl cellsOf40
  simp only [List.drop_succ_cons, List.drop_zero, List.take_succ_cons, List.take_zero] at g_1
  have g_1_0 := g_1.fieldAt Try.underlying40 0 rfl 25 0 1 rfl rfl cellsOf25
  simp only [List.drop_succ_cons, List.drop_zero, List.take_succ_cons, List.take_zero] at g_1_0
  obtain ⟨v1, l1, e1, r1, s1, b1⟩ := g_1_0.ints Try.underlying25 Try.underlying3 (by kernel_rfl) (by kernel_rfl)
  cases e1
  have g_1_1 := g_1.fieldAt Try.underlying40 1 rfl 25 1 1 rfl rfl cellsOf25
  simp only [List.drop_succ_cons, List.drop_zero, List.take_succ_cons, List.take_zero] at g_1_1
  obtain ⟨v2, l2, e2, r2, s2, b2⟩ := g_1_1.ints Try.underlying25 Try.underlying3 (by kernel_rfl) (by kernel_rfl)
  cases e2
  have g_1_2 := g_1.fieldAt Try.underlying40 2 rfl 38 2 1 rfl rfl cellsOf38
  simp only [List.drop_succ_cons, List.drop_zero, List.take_succ_cons, List.take_zero] at g_1_2
  obtain ⟨v3, l3, e3, r3, s3, b3⟩ := g_1_2.rows Try.underlying38 Try.underlying25 (by kernel_rfl) (by kernel_rfl) Try.underlying3 (by kernel_rfl) (by kernel_rfl)
  cases e3
  have g_2 := g.fieldAt Try.underlying42 2 rfl 3 4 1 rfl rfl cellsOf3
  simp only [List.drop_succ_cons, List.drop_zero, List.take_succ_cons, List.take_zero] at g_2
  obtain ⟨x4, e4, w4⟩ := g_2.int Try.underlying3
  cases e4
  exact ⟨x0, _, l1, _, l2, _, l3, x4, rfl, w0, r1, s1, b1, r2, s2, b2, r3, s3, b3, w4⟩

set_option maxRecDepth 100000 in
theorem open44 {H : Type} {enc : TypeId × Value → H} {W : World} {base : Nat} {v : Value} (hv : Value.okWide Try.prog W .any base 44 v) (g : Gd enc Try.prog W 0 (fun _ => true) true 44 v.cells.toList) :
    ∃ (x0 : Int) (x1 : Int), v = .agg #[.int .i64 x0, .int .i64 x1] ∧ (Lit.int .i64 x0).wf = true ∧ (Lit.int .i64 x1).wf = true := by
  obtain ⟨cs, rfl, hsz⟩ := okWide_struct Try.underlying44 hv
  obtain ⟨cs⟩ := cs
  rw [cellsOf44] at hsz
  obtain ⟨c0, c1, rfl⟩ := len2 (show cs.length = 2 from hsz)
  simp only [Value.cells] at g
  have g_0 := g.fieldAt Try.underlying44 0 rfl 3 0 1 rfl rfl cellsOf3
  simp only [List.drop_succ_cons, List.drop_zero, List.take_succ_cons, List.take_zero] at g_0
  obtain ⟨x0, e0, w0⟩ := g_0.int Try.underlying3
  cases e0
  have g_1 := g.fieldAt Try.underlying44 1 rfl 3 1 1 rfl rfl cellsOf3
  simp only [List.drop_succ_cons, List.drop_zero, List.take_succ_cons, List.take_zero] at g_1
  obtain ⟨x1, e1, w1⟩ := g_1.int Try.underlying3
  cases e1
  exact ⟨x0, x1, rfl, w0, w1⟩

set_option maxRecDepth 100000 in
theorem open53 {H : Type} {enc : TypeId × Value → H} {W : World} {base : Nat} {v : Value} (hv : Value.okWide Try.prog W .any base 53 v) (g : Gd enc Try.prog W 0 (fun _ => true) true 53 v.cells.toList) :
    ∃ (v0 : Value) (l0 : List (Int × Int)), v = v0 ∧ RS W v0 2 l0.length (prs l0) ∧ l0.length * 16 ≤ reachBytes ∧ (∀ p ∈ l0, (Lit.int .i64 p.1).wf = true ∧ (Lit.int .i64 p.2).wf = true) := by
  obtain ⟨a, len, cap, rfl⟩ := okWide_slice Try.underlying53 hv
  simp only [Value.cells] at g
  obtain ⟨v0, l0, e0, r0, s0, b0⟩ := g.pairs Try.underlying53 Try.underlying61 (by kernel_rfl) (by kernel_rfl) Try.underlying3 Try.underlying3 rfl rfl (by kernel_rfl) (by kernel_rfl)
  cases e0
  exact ⟨_, l0, rfl, r0, s0, b0⟩

end Go.Proofs.Ytliddinpfgpnfaa
