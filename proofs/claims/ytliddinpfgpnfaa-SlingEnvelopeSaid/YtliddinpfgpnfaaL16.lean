/- The plain law of SlingEnvelope: what is in sets that keep a limit stays in it in each tick. -/
import Derived.Test.YtliddinpfgpnfaaL15
namespace Go.Proofs.Ytliddinpfgpnfaa
open Go Go.RowKit Go.Sort
set_option linter.unusedVariables false

theorem env_at {num damp D l0 h0 l1 h1 a v ll lh : Int} {g : Int × Int} {m : Nat} {gs : List Int} (hk : ∀ t, t ≤ m → outB num damp D (l0, h0) (l1, h1) g ll lh t = false) (hl : gs.length = m) (h : InS (l0, h0) (l1, h1) g a v gs) {k : Nat} (hkm : k ≤ m) :
    ll * D ^ k ≤ (runs num damp D (a, v, 1) (gs.take k)).1 ∧ (runs num damp D (a, v, 1) (gs.take k)).1 ≤ lh * D ^ k := by
  have hin : InS (l0, h0) (l1, h1) g a v (gs.take k) := ⟨h.1, h.2.1, fun x hx => h.2.2 x (List.mem_of_mem_take hx)⟩
  obtain ⟨d1, d2⟩ := disp_most num damp D hin
  have hlk : (gs.take k).length = k := by rw [List.length_take]; omega
  rw [hlk] at d1 d2
  have := hk k hkm
  simp only [outB, Bool.or_eq_false_iff, decide_eq_false_iff_not] at this
  omega

/-- Fraction k of the swing. -/
def swF (num damp D a v : Int) (gs : List Int) (k : Nat) : Int × Int := lowP (runs num damp D (a, v, 1) (gs.take (k + 1))).1 (D ^ (k + 1))

theorem swF_at {num damp D a v : Int} {gs : List Int} (h : swingE num damp D a v gs = 0) {k : Nat} (hk : k < gs.length) : (swingL num damp D a v gs)[k]? = some (swF num damp D a v gs k) := by
  obtain ⟨h1, h2, h3, h4, h5, hS⟩ := swingE_facts h
  obtain ⟨r1, r2, r3⟩ := runs_bound (hS.take (k + 1))
  rw [swingL, if_pos h, fr_at _ _ _ _ _ _ hk, r3]
  rw [show (gs.take (k + 1)).length = k + 1 by rw [List.length_take]; omega]
  rfl

theorem swF_ok {num damp D l0 h0 l1 h1 a v ll lh : Int} {g : Int × Int} {m : Nat} {gs : List Int} (hE : swingE num damp D a v gs = 0) (hk : ∀ t, t ≤ m → outB num damp D (l0, h0) (l1, h1) g ll lh t = false) (hl : gs.length = m) (h : InS (l0, h0) (l1, h1) g a v gs) {k : Nat} (hkm : k < m) :
    SmallF (swF num damp D a v gs k) ∧ decide ((swF num damp D a v gs k).1 * 1 < ll * (swF num damp D a v gs k).2) = false ∧ decide (lh * (swF num damp D a v gs k).2 < (swF num damp D a v gs k).1 * 1) = false := by
  obtain ⟨h1, h2, h3, h4, h5, hS⟩ := swingE_facts hE
  obtain ⟨p1, p2⟩ := pow_small D hS.ok.1 hS.ok.2.1 (k + 1) (by omega)
  obtain ⟨e1, e2⟩ := env_at hk hl h (k := k + 1) (by omega)
  have hb := (runs_bound (hS.take (k + 1))).1
  refine ⟨small_low (by omega) p2 (by omega), ?_, ?_⟩
  · rw [swF, (low_cross (y := 0) (by omega)).2.2.1]; simp; omega
  · rw [swF, (low_cross (y := 0) (by omega)).2.2.2]; simp; omega

theorem small_lim {l : Int} (h : (l.natAbs : Int) ≤ 1000000) : SmallF (l, 1) := ⟨by dsimp only; omega, by show (0 : Int) < 1; decide, by show (1 : Int) ≤ 100000000000000000; decide⟩

end Go.Proofs.Ytliddinpfgpnfaa
