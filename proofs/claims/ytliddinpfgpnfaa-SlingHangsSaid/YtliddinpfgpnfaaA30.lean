/- Contract: the upper half of a range of winds. -/
import Derived.Test.YtliddinpfgpnfaaL9
import Derived.Test.YtliddinpfgpnfaaA28
namespace Go.Proofs.Ytliddinpfgpnfaa
open Go Go.RowKit Go.Sort
set_option linter.unusedSimpArgs false
set_option linter.unusedVariables false

def halfV (lo hi : Int) : Int := wrap64 (lo + wrap64 ((wrap64 (hi - lo)).tdiv 2))

theorem halfV_in {lo hi : Int} (h : lo ≤ hi) (h0 : -1000000 ≤ lo) (h1 : hi ≤ 1000000) : lo ≤ halfV lo hi ∧ halfV lo hi ≤ hi := by
  have e0 : wrap64 (hi - lo) = hi - lo := by unfold wrap64; omega
  have e1 : (hi - lo).tdiv 2 = (hi - lo) / 2 := Int.tdiv_eq_ediv_of_nonneg (by omega)
  have e2 : wrap64 ((hi - lo) / 2) = (hi - lo) / 2 := by unfold wrap64; omega
  have e3 : wrap64 (lo + (hi - lo) / 2) = lo + (hi - lo) / 2 := by unfold wrap64; omega
  rw [halfV, e0, e1, e2, e3]
  omega

theorem law_half (lo hi : Int) (w : World) : Calls Try.prog 27 #[.agg #[.int .i64 lo, .int .i64 hi]] w (AllBelow (.agg #[.int .i64 (halfV lo hi), .int .i64 hi]) w) := by
  go_enter Try.func27, Try.ntmps27
  go_wp2
  refine bodyPost_ret (v := .agg #[.int .i64 (halfV lo hi), .int .i64 hi]) (by simp [results, Try.results27, go_sem]; rfl) rfl ⟨rfl, ?_⟩
  first
    | exact ((Below.refl _ _).alloc (Nat.le_refl _) _).alloc (by simp) _
    | exact ((((Below.refl _ _).alloc (Nat.le_refl _) _).alloc (by simp) _).setCell (by simp) _).setCell (by simp) _

end Go.Proofs.Ytliddinpfgpnfaa
