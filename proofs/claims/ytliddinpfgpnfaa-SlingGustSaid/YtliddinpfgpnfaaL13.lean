/- The plain law of SlingGust: with the gusts that Gust finds the load keeps the limit, with more it does not, and smaller sets keep what larger ones keep. -/
import Derived.Test.YtliddinpfgpnfaaA39
import Derived.Test.YtliddinpfgpnfaaRG
namespace Go.Proofs.Ytliddinpfgpnfaa
open Go Go.RowKit Go.Sort

def halfL (lo hi : Int) : Int := lo + (hi - lo) / 2
theorem halfL_in {lo hi : Int} (h : lo ≤ hi) : lo ≤ halfL lo hi ∧ halfL lo hi ≤ hi := by unfold halfL; omega

theorem outB_sub (num damp D : Int) {b0 b1 g c0 c1 h : Int × Int} {ll lh : Int} {t : Nat} (hs : ∀ i, (spanAt b0 b1 g i).1 ≤ (spanAt c0 c1 h i).1 ∧ (spanAt c0 c1 h i).1 ≤ (spanAt c0 c1 h i).2 ∧ (spanAt c0 c1 h i).2 ≤ (spanAt b0 b1 g i).2)
    (ho : outB num damp D b0 b1 g ll lh t = false) : outB num damp D c0 c1 h ll lh t = false := by
  obtain ⟨m0, m1⟩ := most_sub num damp D (n := t) (fun i _ => hs i)
  simp only [outB, Bool.or_eq_false_iff, decide_eq_false_iff_not] at ho ⊢
  omega

theorem kB_false {p : Nat → Bool} {n : Nat} (h : kB p n = false) : ∀ t, t ≤ n → p t = false := by
  cases hp : kF p n with
  | none => exact kF_not hp
  | some t => rw [(kT_some hp).2] at h; cases h

theorem kB_none {p : Nat → Bool} {n : Nat} (h : ∀ t, t ≤ n → p t = false) : kB p n = false := (kT_none (kF_none (fun j hj => h j (by omega)))).2

theorem keeps_sub (num damp D : Int) {b0 b1 g c0 c1 h : Int × Int} {ll lh : Int} {n : Nat} (hs : ∀ i, (spanAt b0 b1 g i).1 ≤ (spanAt c0 c1 h i).1 ∧ (spanAt c0 c1 h i).1 ≤ (spanAt c0 c1 h i).2 ∧ (spanAt c0 c1 h i).2 ≤ (spanAt b0 b1 g i).2)
    (ho : kB (outB num damp D b0 b1 g ll lh) n = false) : kB (outB num damp D c0 c1 h ll lh) n = false :=
  kB_none (fun t ht => outB_sub num damp D hs (kB_false ho t ht))

theorem half_span {b0 b1 g : Int × Int} (h0 : b0.1 ≤ b0.2) (h1 : b1.1 ≤ b1.2) (h2 : g.1 ≤ g.2) (i : Nat) :
    (spanAt b0 b1 g i).1 ≤ (spanAt (halfL b0.1 b0.2, b0.2) (halfL b1.1 b1.2, b1.2) (halfL g.1 g.2, g.2) i).1 ∧ (spanAt (halfL b0.1 b0.2, b0.2) (halfL b1.1 b1.2, b1.2) (halfL g.1 g.2, g.2) i).1 ≤ (spanAt (halfL b0.1 b0.2, b0.2) (halfL b1.1 b1.2, b1.2) (halfL g.1 g.2, g.2) i).2 ∧ (spanAt (halfL b0.1 b0.2, b0.2) (halfL b1.1 b1.2, b1.2) (halfL g.1 g.2, g.2) i).2 ≤ (spanAt b0 b1 g i).2 := by
  have a := halfL_in h0
  have b := halfL_in h1
  have c := halfL_in h2
  unfold spanAt
  split
  · exact ⟨a.1, a.2, Int.le_refl _⟩
  · split
    · exact ⟨b.1, b.2, Int.le_refl _⟩
    · exact ⟨c.1, c.2, Int.le_refl _⟩

theorem sets_of {num damp D l0 h0 l1 h1 n : Int} {g : Int × Int} {lims : List (Int × Int)} (hV : slingV num damp D = 0) (a0 : l0 ≤ h0) (a1 : l1 ≤ h1) (a2 : g.1 ≤ g.2) (b0 : -1000 ≤ l0 ∧ h0 ≤ 1000) (b1 : -1000 ≤ l1 ∧ h1 ≤ 1000) (b2 : -100 ≤ g.1 ∧ g.2 ≤ 100) (hn : 0 ≤ n ∧ n ≤ 16)
    (hl : lims.any badS = false) : setsE num damp D [(l0, h0), (l1, h1)] g n lims = 0 := by
  have k2 : boxE [(l0, h0), (l1, h1)] = 0 := by
    have v0 : vs l0 h0 = true := by simp [vs, wi]; omega
    have v1 : vs l1 h1 = true := by simp [vs, wi]; omega
    simp [boxE, spannedE, anyBadS, badS, v0, v1, wi]
  have k3 : vs g.1 g.2 = true := by simp [vs, wi]; omega
  unfold setsE
  rw [if_pos hV, if_pos ⟨k2, k3, hl⟩, numE, if_pos]
  simp [numB, inB1, wi]
  omega

theorem slingV_of {num damp D : Int} {bs : List (Int × Int)} {g : Int × Int} {n : Int} {lims : List (Int × Int)} (h : setsE num damp D bs g n lims = 0) : slingV num damp D = 0 := by
  rcases slingV_or num damp D with k | k
  · exact k
  · unfold setsE at h; rw [k] at h; simp at h

theorem keeps_yes {num damp D l0 h0 l1 h1 ll lh : Int} {g : Int × Int} {m : Nat} (h : setsE num damp D [(l0, h0), (l1, h1)] g m [(ll, lh)] = 0) :
    KeepsV num damp D [(l0, h0), (l1, h1)] g m (ll, lh) = .tuple #[.int .i64 (kT (outB num damp D (l0, h0) (l1, h1) g ll lh) m), .bool (!kB (outB num damp D (l0, h0) (l1, h1) g ll lh) m), .int .i64 0] := by
  rw [KeepsV, keepsT, keepsB, if_pos h, if_pos h, h]; rfl

end Go.Proofs.Ytliddinpfgpnfaa
