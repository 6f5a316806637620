/- Words for the law SlingLinear: five blocks that stay as they are behind the first loop, and the cells that its last loop reads. -/
import Derived.Test.YtliddinpfgpnfaaL3
import Derived.Test.YtliddinpfgpnfaaL4
namespace Go.Proofs.Ytliddinpfgpnfaa
open Go Go.RowKit Go.Sort
set_option linter.unusedSimpArgs false
set_option linter.unusedVariables false

/-- Five blocks: the sling, the two arguments, the sum, the opposite. -/
structure LinK (H B M : Nat) (num damp D a v n lo hi a' v' n' lo' hi' sa sv ma mv : Int) (vg vh vb vm : Value) (w : World) : Prop where
  b0 : w.heap[H]? = some (.cells #[.int .i64 num, .int .i64 damp, .int .i64 D] 23 (0, 0))
  b1 : w.heap[H + 1]? = some (.cells #[.int .i64 a, .int .i64 v, vg, .int .i64 n, .int .i64 lo, .int .i64 hi] 29 (0, 0))
  b2 : w.heap[H + 1 + 1]? = some (.cells #[.int .i64 a', .int .i64 v', vh, .int .i64 n', .int .i64 lo', .int .i64 hi'] 29 (0, 0))
  bB : w.heap[B]? = some (swC sa sv vb)
  bM : w.heap[M]? = some (swC ma mv vm)

section
variable {H B M : Nat} {num damp D a v n lo hi a' v' n' lo' hi' sa sv ma mv : Int} {vg vh vb vm : Value} {w : World}
theorem LinK.below (h : LinK H B M num damp D a v n lo hi a' v' n' lo' hi' sa sv ma mv vg vh vb vm w) {w' : World} {N : Nat} (hb : Below N w w') (h1 : H + 1 + 1 < N) (h2 : B < N) (h3 : M < N) :
    LinK H B M num damp D a v n lo hi a' v' n' lo' hi' sa sv ma mv vg vh vb vm w' :=
  ⟨by rw [hb.block H (by omega)]; exact h.b0, by rw [hb.block (H + 1) (by omega)]; exact h.b1, by rw [hb.block (H + 1 + 1) (by omega)]; exact h.b2, by rw [hb.block B (by omega)]; exact h.bB, by rw [hb.block M (by omega)]; exact h.bM⟩

theorem LinK.cells (h : LinK H B M num damp D a v n lo hi a' v' n' lo' hi' sa sv ma mv vg vh vb vm w) :
    (w.cell? ⟨H, 0, none⟩ = some (.int .i64 num) ∧ w.cell? ⟨H, 1, none⟩ = some (.int .i64 damp) ∧ w.cell? ⟨H, 2, none⟩ = some (.int .i64 D)) ∧
    (w.cell? ⟨H + 1, 0, none⟩ = some (.int .i64 a) ∧ w.cell? ⟨H + 1, 1, none⟩ = some (.int .i64 v) ∧ w.cell? ⟨H + 1, 2, none⟩ = some vg) ∧
    (w.cell? ⟨H + 1 + 1, 0, none⟩ = some (.int .i64 a') ∧ w.cell? ⟨H + 1 + 1, 1, none⟩ = some (.int .i64 v') ∧ w.cell? ⟨H + 1 + 1, 2, none⟩ = some vh) ∧
    (w.cell? ⟨B, 0, none⟩ = some (.int .i64 sa) ∧ w.cell? ⟨B, 1, none⟩ = some (.int .i64 sv) ∧ w.cell? ⟨B, 2, none⟩ = some vb) ∧
    (w.cell? ⟨M, 0, none⟩ = some (.int .i64 ma) ∧ w.cell? ⟨M, 1, none⟩ = some (.int .i64 mv) ∧ w.cell? ⟨M, 2, none⟩ = some vm) := by
  refine ⟨⟨?_, ?_, ?_⟩, ⟨?_, ?_, ?_⟩, ⟨?_, ?_, ?_⟩, ⟨?_, ?_, ?_⟩, ⟨?_, ?_, ?_⟩⟩
  all_goals first
    | (rw [(blk_cells h.b0 _).1]; rfl)
    | (rw [(blk_cells h.b1 _).1]; rfl)
    | (rw [(blk_cells h.b2 _).1]; rfl)
    | (rw [(blk_cells h.bB _).1]; rfl)
    | (rw [(blk_cells h.bM _).1]; rfl)
end

theorem RI.of_own {w : World} {base : Nat} {v : Value} {zs : List Int} (h : w.ownsRow base 3 1 v zs.length (ints zs)) : RI w v zs := RS.of_own h

theorem RP.of_len {w : World} {v : Value} {ps : List (Int × Int)} (h : RS w v 2 ps.length (prs ps)) : RP w v ps := h

theorem swingL_len {num damp D a v : Int} {gs : List Int} (h : swingE num damp D a v gs = 0) : (swingL num damp D a v gs).length = gs.length := by
  rw [swingL, if_pos h, fr_len]

/-- A power, closed to simp. -/
def pw (D : Int) (k : Nat) : Int := D ^ k
theorem pw_zero (D : Int) : pw D 0 = 1 := by simp [pw]
theorem pw_succ (D : Int) (k : Nat) : pw D (k + 1) = pw D k * D := Int.pow_succ D k

theorem RP.formN {w : World} {v : Value} {ps : List (Int × Int)} {n : Nat} (h : RP w v ps) (hn : ps.length = n) : ∃ A c, v = .slice A n c ∧ n ≤ c := by
  subst hn; exact h.form
theorem RP.atN {w : World} {v : Value} {ps : List (Int × Int)} {n k : Nat} {p : Int × Int} (h : RP w v ps) (hn : ps.length = n) (hp : ps[k]? = some p) :
    ∃ b o c, v = .slice (some ⟨b, o, none⟩) n c ∧ b < w.heap.size ∧ w.cell? ⟨b, o + k * 2, none⟩ = some (.int .i64 p.1) ∧ w.cell? ⟨b, o + k * 2 + 1, none⟩ = some (.int .i64 p.2) := by
  subst hn
  obtain ⟨hk, -⟩ := List.getElem?_eq_some_iff.1 hp
  obtain ⟨b, o, c, x, y, e, hb, hx, h1, h2⟩ := h.at hk
  rw [hp] at hx
  cases hx
  exact ⟨b, o, c, e, hb, h1, h2⟩

/-- What the walk of a round is told of a fraction p / q: d is the power. -/
structure RowF (d p q : Int) : Prop where
  q1 : 1 ≤ q
  pos : decide (0 < q) = true
  t0 : (Int.tmod d q != 0) = false
  e0 : (d % q != 0) = false
  td : Int.tdiv d q = d / q
  d0 : 0 ≤ d / q
  d1 : d / q ≤ 4294967296
  wm : IntKind.i64.wrap (p * (d / q)) = p * (d / q)
  wn : IntKind.i64.wrap (-p) = -p
  small : (p * (d / q)).natAbs ≤ 1000000000000000

theorem row_facts {D : Int} {k : Nat} {p q : Int} (h : LinRow D k (p, q)) (hD : 1 ≤ D) (hD' : D ≤ 4) (hk : k + 1 ≤ 16) : RowF (pw D (k + 1)) p q := by
  obtain ⟨h1, h2, h3⟩ := h
  obtain ⟨p1, p2⟩ := pow_small D hD hD' (k + 1) hk
  change 0 < q at h1
  change q ∣ pw D (k + 1) at h2
  change (p * (pw D (k + 1) / q)).natAbs ≤ _ at h3
  change 1 ≤ pw D (k + 1) at p1
  change pw D (k + 1) ≤ _ at p2
  generalize pw D (k + 1) = d at *
  have e : d % q = 0 := Int.emod_eq_zero_of_dvd h2
  have e2 : Int.tmod d q = 0 := by rw [Int.tmod_eq_emod_of_nonneg (by omega)]; exact e
  have d0 : 0 ≤ d / q := Int.ediv_nonneg (by omega) (by omega)
  have d1 : d / q ≤ d := Int.ediv_le_self _ (by omega)
  have d2 : d / q ≠ 0 := fun e0 => by have := Int.ediv_mul_cancel h2; rw [e0] at this; omega
  have h4 : p.natAbs ≤ (p * (d / q)).natAbs := by rw [Int.natAbs_mul]; exact Nat.le_mul_of_pos_right _ (by omega)
  exact ⟨by omega, by simpa using h1, by simp [e2], by simp [e], Int.tdiv_eq_ediv_of_nonneg (by omega), d0, by omega, wr (by omega) (by omega), wr (by omega) (by omega), h3⟩

theorem pw_bound {D : Int} {k : Nat} (hD : 1 ≤ D) (hD' : D ≤ 4) (hk : k ≤ 16) : 1 ≤ pw D k ∧ pw D k ≤ 4294967296 := pow_small D hD hD' k hk
theorem pw_wrap {D : Int} {k : Nat} (hD : 1 ≤ D) (hD' : D ≤ 4) (hk : k + 1 ≤ 16) : wrap64 (pw D k * D) = pw D (k + 1) := by
  obtain ⟨p1, p2⟩ := pw_bound (k := k + 1) hD hD' hk
  rw [← pw_succ]; exact w64 (by omega)

end Go.Proofs.Ytliddinpfgpnfaa
