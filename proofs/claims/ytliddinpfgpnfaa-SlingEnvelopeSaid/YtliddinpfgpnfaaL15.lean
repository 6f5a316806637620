/- The plain law of SlingWithin and SlingEnvelope: witnesses swing to the ends, and whatever is in the sets swings between them. -/
import Derived.Test.YtliddinpfgpnfaaA41
import Derived.Test.YtliddinpfgpnfaaA45
import Derived.Test.YtliddinpfgpnfaaA46
namespace Go.Proofs.Ytliddinpfgpnfaa
open Go Go.RowKit Go.Sort
set_option linter.unusedVariables false

theorem slingV_ok0 {num damp D : Int} {bs : List (Int × Int)} {g : Int × Int} {n : Int} {lims : List (Int × Int)} (h : setsE num damp D bs g n lims = 0) : slingV num damp D = 0 := by
  rcases slingV_or num damp D with k | k
  · exact k
  · unfold setsE at h; rw [k] at h; simp at h

theorem in_swing {num damp D l0 h0 l1 h1 a v : Int} {g : Int × Int} {gs : List Int} (hV : slingV num damp D = 0) (b0 : -1000 ≤ l0 ∧ h0 ≤ 1000) (b1 : -1000 ≤ l1 ∧ h1 ≤ 1000) (b2 : -100 ≤ g.1 ∧ g.2 ≤ 100) (hn : gs.length ≤ 16) (h : InS (l0, h0) (l1, h1) g a v gs) : swingE num damp D a v gs = 0 := by
  obtain ⟨⟨a1, a2⟩, ⟨a3, a4⟩, a5⟩ := h
  dsimp only at a1 a2 a3 a4
  exact swingE_mk hV hn (by omega) (by omega) (fun x hx => by have := a5 x hx; omega)

/-- What the witness of the sets does. -/
structure Wit (num damp D l0 h0 l1 h1 : Int) (g : Int × Int) (m : Nat) (high : Bool) (x0 x1 : Int) (row : List Int) : Prop where
  swing : swingE num damp D x0 x1 row = 0
  isIn : inSB (l0, h0) (l1, h1) g m x0 x1 row = true
  last : lastF num damp D x0 x1 row = lowP (mostN num damp D (l0, h0) (l1, h1) g m high) (D ^ m)
  len : row.length = m

theorem wit_ok {num damp D l0 h0 l1 h1 : Int} {g : Int × Int} {m : Nat} (hV : slingV num damp D = 0) (z0 : l0 ≤ h0) (z1 : l1 ≤ h1) (z2 : g.1 ≤ g.2) (b0 : -1000 ≤ l0 ∧ h0 ≤ 1000) (b1 : -1000 ≤ l1 ∧ h1 ≤ 1000) (b2 : -100 ≤ g.1 ∧ g.2 ≤ 100) (hm : m ≤ 16) (high : Bool) :
    Wit num damp D l0 h0 l1 h1 g m high (pickN num damp D (l0, h0) (l1, h1) g m high 0) (pickN num damp D (l0, h0) (l1, h1) g m high 1) (rowN num damp D (l0, h0) (l1, h1) g m high) := by
  have hin := pick_in num damp D (b0 := (l0, h0)) (b1 := (l1, h1)) (g := g) z0 z1 z2 m high
  have hl := rowN_len num damp D (l0, h0) (l1, h1) g m high
  refine ⟨in_swing hV b0 b1 b2 (by omega) hin, inSB_iff.2 ⟨hin, by omega⟩, ?_, hl⟩
  rw [lastF, disp_pick, hl]

/-- What a start and gusts in the sets do: their fraction lies between both ends. -/
theorem in_between {num damp D l0 h0 l1 h1 a v : Int} {g : Int × Int} {m : Nat} {gs : List Int} (hok : ok3 num damp D) (hm : m ≤ 16) (h : inSB (l0, h0) (l1, h1) g m a v gs = true) :
    gs.length = m ∧ InS (l0, h0) (l1, h1) g a v gs ∧
    decide ((lastF num damp D a v gs).1 * (lowP (mostN num damp D (l0, h0) (l1, h1) g m false) (D ^ m)).2 < (lowP (mostN num damp D (l0, h0) (l1, h1) g m false) (D ^ m)).1 * (lastF num damp D a v gs).2) = false ∧
    decide ((lowP (mostN num damp D (l0, h0) (l1, h1) g m true) (D ^ m)).1 * (lastF num damp D a v gs).2 < (lastF num damp D a v gs).1 * (lowP (mostN num damp D (l0, h0) (l1, h1) g m true) (D ^ m)).2) = false := by
  obtain ⟨hin, hl⟩ := inSB_iff.1 h
  have hl' : gs.length = m := by omega
  have hp := (pow_small D hok.1 hok.2.1 m hm).1
  obtain ⟨d1, d2⟩ := disp_most num damp D hin
  rw [hl'] at d1 d2
  refine ⟨hl', hin, ?_, ?_⟩
  · rw [lastF, hl', (low_cross (x := (runs num damp D (a, v, 1) gs).1) (y := mostN num damp D (l0, h0) (l1, h1) g m false) (d := D ^ m) (by omega)).2.1]
    simp; omega
  · rw [lastF, hl', (low_cross (x := mostN num damp D (l0, h0) (l1, h1) g m true) (y := (runs num damp D (a, v, 1) gs).1) (d := D ^ m) (by omega)).2.1]
    simp; omega

/-- A fraction that is small. -/
def SmallF (p : Int × Int) : Prop := (p.1.natAbs : Int) ≤ 100000000000000000 ∧ 0 < p.2 ∧ p.2 ≤ 100000000000000000

theorem small_low {x d : Int} (hd : 0 < d) (hd' : d ≤ 4294967296) (hx : (x.natAbs : Int) ≤ 6184752906240000) : SmallF (lowP x d) := by
  obtain ⟨a, b⟩ := low_small (x := x) hd
  exact ⟨by omega, (low_cross (y := 0) hd).1, by omega⟩

theorem small_most {num damp D : Int} (hok : ok3 num damp D) {b0 b1 g : Int × Int} (hS : SmallS b0 b1 g) {m : Nat} (hm : m ≤ 16) (high : Bool) : SmallF (lowP (mostN num damp D b0 b1 g m high) (D ^ m)) := by
  obtain ⟨p1, p2⟩ := pow_small D hok.1 hok.2.1 m hm
  exact small_low (by omega) p2 (sum_abs hok hS (k := m + 2) hm (by omega) high)

theorem small_last {num damp D a v : Int} {gs : List Int} (h : swingE num damp D a v gs = 0) : SmallF (lastF num damp D a v gs) := by
  obtain ⟨h1, h2, h3, h4, h5, hS⟩ := swingE_facts h
  obtain ⟨p1, p2⟩ := pow_small D hS.ok.1 hS.ok.2.1 gs.length h2
  have := (runs_bound hS).1
  exact small_low (by omega) p2 (by omega)

end Go.Proofs.Ytliddinpfgpnfaa
