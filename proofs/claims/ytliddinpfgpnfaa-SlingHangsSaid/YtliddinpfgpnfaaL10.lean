/- The plain law of SlingTouched, continued: a haul without an error, and the same haul at half of the winds. -/
import Derived.Test.YtliddinpfgpnfaaA30
namespace Go.Proofs.Ytliddinpfgpnfaa
open Go Go.RowKit

theorem haul_zero {cable : Int} {X Y : List Int} {V : List (List Int)} {charge lo hi : Int} {l : List (Int × Int)} (h : (haulR cable X Y V charge lo hi l).2.2 = 0) :
    windsE cable X Y V charge lo hi = 0 ∧ l.length ≤ 100 ∧ ∃ s, haulR cable X Y V charge lo hi l = (s, 0, 0) ∧ runO (refO cable X Y V charge lo hi) h0 0 l = .inl s := by
  rw [haul_eq] at h ⊢
  unfold haulS at h ⊢
  by_cases h1 : windsE cable X Y V charge lo hi = 71 ∨ windsE cable X Y V charge lo hi = 10
  · rw [if_pos h1] at h; rcases h1 with e | e <;> rw [e] at h <;> simp at h
  rw [if_neg h1] at h ⊢
  by_cases h2 : 100 < l.length
  · rw [if_pos h2] at h; simp at h
  rw [if_neg h2] at h ⊢
  by_cases h3 : windsE cable X Y V charge lo hi = 0
  · rw [if_neg (by rw [h3]; simp)] at h ⊢
    refine ⟨h3, by omega, ?_⟩
    cases hr : runO (refO cable X Y V charge lo hi) h0 0 l with
    | inl s => exact ⟨s, rfl, rfl⟩
    | inr i => rw [hr] at h; simp [haulOf] at h
  · rw [if_pos h3] at h; exact absurd h h3

theorem winds_half {cable : Int} {X Y : List Int} {V : List (List Int)} {charge lo hi : Int} (h : windsE cable X Y V charge lo hi = 0) : windsE cable X Y V charge (halfV lo hi) hi = 0 ∧ lo ≤ halfV lo hi := by
  have hO := windsE_zero h
  have hv := hO.val
  have hl := hO.lie
  simp only [vs, wi, Bool.and_eq_true, decide_eq_true_eq] at hv
  simp only [liesB, Bool.and_eq_true, decide_eq_true_eq] at hl
  obtain ⟨a, b⟩ := halfV_in (lo := lo) (hi := hi) (by omega) (by omega) (by omega)
  refine ⟨?_, a⟩
  have e1 : vs (halfV lo hi) hi = true := by simp only [vs, wi, Bool.and_eq_true, decide_eq_true_eq]; omega
  have e2 : liesB Y (halfV lo hi) hi = true := by simp only [liesB, Bool.and_eq_true, decide_eq_true_eq]; omega
  unfold windsE at h ⊢
  by_cases h1 : hoistE cable X Y V charge = 0
  · rw [if_neg (by rw [h1]; simp), e1, e2]; rfl
  · rw [if_pos h1] at h; exact absurd h h1

theorem haul_half {cable : Int} {X Y : List Int} {V : List (List Int)} {charge lo hi : Int} {l : List (Int × Int)} {s : Hg} (h : windsE cable X Y V charge lo hi = 0) (hn : l.length ≤ 100) (hr : runO (refO cable X Y V charge lo hi) h0 0 l = .inl s) :
    haulR cable X Y V charge (halfV lo hi) hi l = (s, 0, 0) := by
  obtain ⟨h', hle⟩ := winds_half h
  have hO := windsE_zero h
  rw [haul_eq, haulS, if_neg (by rw [h']; simp), if_neg (by omega), if_neg (by rw [h']; simp)]
  rw [run_half hO (windsE_zero h') hle l h0 s 0 (vd0 (by have := hO.cab; omega)) hr]
  rfl

end Go.Proofs.Ytliddinpfgpnfaa
