/- Contract: the displacement behind all gusts (last), and its plain law. -/
import Derived.Test.YtliddinpfgpnfaaL4
import Derived.Test.YtliddinpfgpnfaaL5
import Derived.Test.YtliddinpfgpnfaaA19
import Derived.Test.YtliddinpfgpnfaaA37
namespace Go.Proofs.Ytliddinpfgpnfaa
open Go Go.RowKit Go.Sort
set_option linter.unusedSimpArgs false
set_option linter.unusedVariables false

/-- The displacement behind all gusts, in lowest terms. -/
def lastF (num damp D a v : Int) (gs : List Int) : Int × Int := lowP (runs num damp D (a, v, 1) gs).1 (D ^ gs.length)

theorem lastF_nil (num damp D a v : Int) : lastF num damp D a v [] = (a, 1) := by
  simp [lastF, lowP, runs]

theorem lastF_at {num damp D a v : Int} {gs : List Int} (h : swingE num damp D a v gs = 0) {k : Nat} (hk : gs.length = k + 1) : (swingL num damp D a v gs)[k]? = some (lastF num damp D a v gs) := by
  obtain ⟨h1, h2, h3, h4, h5, hS⟩ := swingE_facts h
  obtain ⟨r1, r2, r3⟩ := runs_bound hS
  rw [swingL, if_pos h, fr_at _ _ _ _ _ _ (by omega), List.take_of_length_le (by omega), r3]
  rfl

theorem low_cross {x d y : Int} (hd : 0 < d) : 0 < (lowP x d).2 ∧ decide ((lowP x d).1 * (lowP y d).2 < (lowP y d).1 * (lowP x d).2) = decide (x < y) ∧ (∀ l, decide ((lowP x d).1 * 1 < l * (lowP x d).2) = decide (x < l * d)) ∧ (∀ l, decide (l * (lowP x d).2 < (lowP x d).1 * 1) = decide (l * d < x)) := by
  obtain ⟨l1, l2, l3⟩ := low_facts x d hd
  obtain ⟨m1, m2, m3⟩ := low_facts y d hd
  generalize lowP x d = p at *
  generalize lowP y d = q at *
  obtain ⟨k, hk⟩ := l2
  obtain ⟨k', hk'⟩ := m2
  have e1 : d / p.2 = k := by rw [hk]; exact Int.mul_ediv_cancel_left _ (by omega)
  have e2 : d / q.2 = k' := by rw [hk']; exact Int.mul_ediv_cancel_left _ (by omega)
  rw [e1] at l3
  rw [e2] at m3
  have hkp : 0 < k := Int.pos_of_mul_pos_right (by rw [← hk]; exact hd) l1
  have hkp' : 0 < k' := Int.pos_of_mul_pos_right (by rw [← hk']; exact hd) m1
  refine ⟨l1, ?_, fun l => ?_, fun l => ?_⟩
  · rw [Bool.eq_iff_iff, decide_eq_true_iff, decide_eq_true_iff]
    have c1 : x * d = p.1 * q.2 * (k * k') := by rw [← l3, hk']; grind
    have c2 : y * d = q.1 * p.2 * (k * k') := by rw [← m3, hk]; grind
    have hkk : 0 < k * k' := Int.mul_pos hkp hkp'
    constructor
    · intro h
      have h2 : p.1 * q.2 * (k * k') < q.1 * p.2 * (k * k') := Int.mul_lt_mul_of_pos_right h hkk
      rw [← c1, ← c2] at h2
      exact Int.lt_of_mul_lt_mul_right h2 (by omega)
    · intro h
      have h2 : x * d < y * d := Int.mul_lt_mul_of_pos_right h hd
      rw [c1, c2] at h2
      exact Int.lt_of_mul_lt_mul_right h2 (by omega)
  · rw [Bool.eq_iff_iff, decide_eq_true_iff, decide_eq_true_iff, Int.mul_one]
    have c2 : l * d = l * p.2 * k := by rw [hk]; grind
    rw [c2, ← l3]
    exact ⟨fun h => Int.mul_lt_mul_of_pos_right h hkp, fun h => Int.lt_of_mul_lt_mul_right h (by omega)⟩
  · rw [Bool.eq_iff_iff, decide_eq_true_iff, decide_eq_true_iff, Int.mul_one]
    have c2 : l * d = l * p.2 * k := by rw [hk]; grind
    rw [c2, ← l3]
    exact ⟨fun h => Int.mul_lt_mul_of_pos_right h hkp, fun h => Int.lt_of_mul_lt_mul_right h (by omega)⟩

theorem low_small {x d : Int} (hd : 0 < d) : ((lowP x d).1.natAbs : Int) ≤ x.natAbs ∧ (lowP x d).2 ≤ d := by
  obtain ⟨l1, l2, l3⟩ := low_facts x d hd
  generalize lowP x d = p at *
  obtain ⟨k, hk⟩ := l2
  have e1 : d / p.2 = k := by rw [hk]; exact Int.mul_ediv_cancel_left _ (by omega)
  rw [e1] at l3
  have hkp : 0 < k := Int.pos_of_mul_pos_right (by rw [← hk]; exact hd) l1
  refine ⟨?_, ?_⟩
  · rw [← l3, Int.natAbs_mul]
    have : 1 ≤ k.natAbs := by omega
    have := Nat.mul_le_mul_left p.1.natAbs this
    omega
  · have := Int.mul_le_mul_of_nonneg_left (show 1 ≤ k by omega) (show 0 ≤ p.2 by omega)
    omega

theorem fraction_is {a b : Int} (h : 0 < b) (w : World) : Calls Try.prog 16 #[.agg #[.int .i64 a, .int .i64 b]] w (AllBelow (.bool true) w) := by
  have := law_fraction a b w
  rwa [show decide (0 < b) = true by simpa using h] at this

theorem heap3L (w : World) (o1 o2 o3 : Obj) : (((w.alloc o1).alloc o2).alloc o3).heap[w.heap.size + 1 + 1]? = some o3 := by
  have h1 := heap_alloc_new ((w.alloc o1).alloc o2) o3
  simpa using h1

theorem two_cellsL {w : World} {b : Nat} {u v : Value} {T : TypeId} (h : w.heap[b]? = some (.cells #[u, v] T (0, 0))) : w.cell? ⟨b, 0, none⟩ = some u ∧ w.cell? ⟨b, 1, none⟩ = some v ∧ w.frozen? ⟨b, 0, none⟩ = false ∧ w.frozen? ⟨b, 1, none⟩ = false :=
  ⟨(blk_cells h 0).1, (blk_cells h 1).1, (blk_cells h 0).2, (blk_cells h 1).2⟩

set_option maxRecDepth 100000 in
set_option maxHeartbeats 3200000 in
theorem law_last (num damp D a v : Int) (vg : Value) (gs : List Int) (w : World) (hR : RI w vg gs) (hE : swingE num damp D a v gs = 0) :
    Calls Try.prog 33 #[.agg #[.int .i64 num, .int .i64 damp, .int .i64 D], .agg #[.int .i64 a, .int .i64 v], vg] w (AllBelow (.tuple #[pairV (lastF num damp D a v gs), .bool true]) w) := by
  obtain ⟨h1, h2, h3, h4, h5, hS⟩ := swingE_facts hE
  have B3 : ∀ o1 o2 o3, Below w.heap.size w (((w.alloc o1).alloc o2).alloc o3) := fun o1 o2 o3 => (((Below.refl _ _).alloc (Nat.le_refl _) _).alloc (by simp) _).alloc (by simp; omega) _
  by_cases hg : gs.length = 0
  · obtain rfl : gs = [] := List.eq_nil_of_length_eq_zero hg
    have HL := Lib.hid (lastF_nil num damp D a v)
    obtain ⟨A, c, rfl, hc⟩ := hR.formN (n := 0) rfl
    clear hg
    go_enter Try.func33, Try.ntmps33
    go_wp2_with fail
    refine bodyPost_ret (v := .tuple #[.agg #[.int .i64 a, .int .i64 1], .bool true]) (by simp [results, Try.results33, go_sem]) rfl ⟨by rw [HL.out]; rfl, ?_⟩
    first
      | exact B3 _ _ _
      | exact ((B3 _ _ _).setCell (p := ⟨w.heap.size + 1 + 1, 0, none⟩) (by dsimp only; omega) _).setCell (p := ⟨w.heap.size + 1 + 1, 1, none⟩) (by dsimp only; omega) _
  · obtain ⟨k, hk⟩ : ∃ k, gs.length = k + 1 := ⟨gs.length - 1, by omega⟩
    have HL := Lib.hid (lastF_at hE hk)
    have hp : 0 < (lastF num damp D a v gs).2 := (low_cross (y := 0) (pow_small D hS.ok.1 hS.ok.2.1 gs.length h2 |>.1 |> fun h => by omega)).1
    have hs2 : (swingL num damp D a v gs).length = k + 1 := by rw [swingL, if_pos hE, fr_len]; exact hk
    have HSl := Lib.hid hs2
    have HSw := fun (W : World) (hW : Below w.heap.size w W) => sling_Swing num damp D a v vg gs W (hR.below hW) (by omega)
    have HE := Lib.hid hE
    obtain ⟨A, c, rfl, hc⟩ := hR.formN hk
    have i1 : (0 : Int) ≤ (k : Int) := by omega
    have i2 : (k : Int) ≤ 16 := by omega
    obtain ⟨P, hP⟩ : ∃ z, z = lastF num damp D a v gs := ⟨_, rfl⟩
    rw [← hP] at hp HL
    rw [← hP]
    obtain ⟨P0, P1⟩ := P
    dsimp only at hp
    clear hg hs2 hE hP
    go_enter Try.func33, Try.ntmps33
    go_wp2_with (go_at_call 14; (with_reducible refine (HSw _ (B3 _ _ _)).mono ?_); rintro e w1 ⟨vo, rfl, hb1, hro⟩; rw [HE.out]; obtain ⟨bo, oo, co, rfl, hlto, q0, q1⟩ := RP.atN (RP.of_len hro) HSl.out HL.out; have E1 := (B3 _ _ _).trans (hb1.mono (by simp; omega)); have T2 := (hb1.block (w.heap.size + 1 + 1) (by simp)).trans (heap3L w _ _ _); have u2 := hp_lt T2; obtain ⟨y0, y1, y2, y3⟩ := two_cellsL T2; dsimp only at q0 q1; clear hro T2)
    have FR := fun W => fraction_is (a := P0) (b := P1) hp W
    go_wp2_with (go_at_call 16; (with_reducible refine (FR _).mono ?_); rintro e w2 ⟨rfl, hb2⟩; obtain ⟨hc2, hf2, hs2⟩ := bcell hb2; have E2 := E1.trans (hb2.mono E1.size))
    refine bodyPost_ret (v := .tuple #[.agg #[.int .i64 P0, .int .i64 P1], .bool true]) (by simp [results, Try.results33, go_sem, hc2, y0, y1, u2]) rfl ⟨rfl, ?_⟩
    exact (E2.setCell (p := ⟨w.heap.size + 1 + 1, 0, none⟩) (by dsimp only; omega) _).setCell (p := ⟨w.heap.size + 1 + 1, 1, none⟩) (by dsimp only; omega) _

end Go.Proofs.Ytliddinpfgpnfaa
