/- Contract: the law SlingKeeps. -/
import Derived.Test.YtliddinpfgpnfaaRH
import Derived.Test.YtliddinpfgpnfaaA20
namespace Go.Proofs.Ytliddinpfgpnfaa
open Go Go.RowKit Go.Sort
set_option linter.unusedSimpArgs false
set_option linter.unusedVariables false

abbrev setsO (vb : Value) (gl gh ll lh n : Int) : Obj := .cells #[vb, .int .i64 gl, .int .i64 gh, .int .i64 ll, .int .i64 lh, .int .i64 n] 67
abbrev lwW (num damp D : Int) (vb : Value) (gl gh ll lh n : Int) (w : World) : World := (w.alloc (.cells #[.int .i64 num, .int .i64 damp, .int .i64 D] 23)).alloc (setsO vb gl gh ll lh n)

theorem lwW_below (num damp D : Int) (vb : Value) (gl gh ll lh n : Int) (w : World) : Below w.heap.size w (lwW num damp D vb gl gh ll lh n w) := ((Below.refl _ _).alloc (Nat.le_refl _) _).alloc (by simp) _

theorem lwW_cells {num damp D gl gh ll lh n : Int} {vb : Value} {w wr : World} (h : Below (w.heap.size + 1 + 1) (lwW num damp D vb gl gh ll lh n w) wr) :
    (wr.cell? ⟨w.heap.size, 0, none⟩ = some (.int .i64 num) ∧ wr.cell? ⟨w.heap.size, 1, none⟩ = some (.int .i64 damp) ∧ wr.cell? ⟨w.heap.size, 2, none⟩ = some (.int .i64 D)) ∧
    (wr.cell? ⟨w.heap.size + 1, 0, none⟩ = some vb ∧ wr.cell? ⟨w.heap.size + 1, 1, none⟩ = some (.int .i64 gl) ∧ wr.cell? ⟨w.heap.size + 1, 2, none⟩ = some (.int .i64 gh) ∧ wr.cell? ⟨w.heap.size + 1, 3, none⟩ = some (.int .i64 ll) ∧ wr.cell? ⟨w.heap.size + 1, 4, none⟩ = some (.int .i64 lh) ∧ wr.cell? ⟨w.heap.size + 1, 5, none⟩ = some (.int .i64 n)) ∧
    w.heap.size < wr.heap.size ∧ w.heap.size + 1 < wr.heap.size := by
  have h0 := (h.block w.heap.size (by omega)).trans ((Below.heap_alloc _ _ _ (by simp)).trans (heap_alloc_new w _))
  have e1 : (lwW num damp D vb gl gh ll lh n w).heap[w.heap.size + 1]? = some (.cells #[vb, .int .i64 gl, .int .i64 gh, .int .i64 ll, .int .i64 lh, .int .i64 n] 67 (0, 0)) := by
    have := heap_alloc_new (w.alloc (.cells #[.int .i64 num, .int .i64 damp, .int .i64 D] 23)) (setsO vb gl gh ll lh n)
    rwa [show (w.alloc (.cells #[.int .i64 num, .int .i64 damp, .int .i64 D] 23)).heap.size = w.heap.size + 1 by simp] at this
  have h1 := (h.block (w.heap.size + 1) (by omega)).trans e1
  refine ⟨?_, ?_, hp_lt h0, hp_lt h1⟩
  · simp [blk_cells h0]
  · simp [blk_cells h1]

set_option maxRecDepth 100000 in
set_option maxHeartbeats 6400000 in
theorem law_Keeps (num damp D : Int) (vb : Value) (bs : List (Int × Int)) (gl gh ll lh n : Int) (w : World) (hR : RP w vb bs) (hl : bs.length ≤ 1000000000000000000) :
    Calls Try.prog 10 #[.agg #[.int .i64 num, .int .i64 damp, .int .i64 D], .agg #[vb, .int .i64 gl, .int .i64 gh, .int .i64 ll, .int .i64 lh, .int .i64 n]] w (AllBelow (.bool true) w) := by
  have B2 := lwW_below num damp D vb gl gh ll lh n w
  have bx := fun (W : World) (hb : Below (w.heap.size + 1 + 1) (lwW num damp D vb gl gh ll lh n w) W) => lwW_cells hb
  have z4 : w.heap.size + 1 + 1 ≤ (lwW num damp D vb gl gh ll lh n w).heap.size := by simp
  have HA := fun (W : World) (hW : Below w.heap.size w W) => sling_Keeps num damp D vb bs gl gh n ll lh W (hR.below hW) hl
  have HB := fun (W : World) (hW : Below w.heap.size w W) => ref_Keeps num damp D vb bs gl gh n ll lh W (hR.below hW) hl
  have HC := fun (W : World) (hW : Below w.heap.size w W) => sling_Gust num damp D vb bs n ll lh W (hR.below hW) hl
  have HD := fun (W : World) (hW : Below w.heap.size w W) => ref_Gust num damp D vb bs n ll lh W (hR.below hW) hl
  have HW := fun W => law_works W
  simp only [KeepsV] at HA HB
  simp only [GustV] at HC HD
  generalize keepsT num damp D bs (gl, gh) n (ll, lh) = kt at HA HB
  generalize keepsB num damp D bs (gl, gh) n (ll, lh) = kb at HA HB
  generalize setsE num damp D bs (gl, gh) n [(ll, lh)] = ke at HA HB
  generalize (gustR num damp D bs n (ll, lh)).1 = g1 at HC HD
  generalize (gustR num damp D bs n (ll, lh)).2 = g2 at HC HD
  have G0 := Below.refl (w.heap.size + 1 + 1) (lwW num damp D vb gl gh ll lh n w)
  obtain ⟨⟨q0, q1, q2⟩, ⟨q3, q4, q5, q6, q7, q8⟩, u0, u1⟩ := bx _ G0
  go_enter Try.func10, Try.ntmps10
  go_wp2_with (first
    | (go_at_call 35; (with_reducible refine (HA _ B2).mono ?_); rintro e w1 ⟨rfl, hb1⟩; have E1 := B2.trans (hb1.mono B2.size); have G1 := G0.trans (hb1.mono z4); clear q0 q1 q2 q3 q4 q5 q6 q7 q8 u0 u1; obtain ⟨⟨q0, q1, q2⟩, ⟨q3, q4, q5, q6, q7, q8⟩, u0, u1⟩ := bx _ G1)
    | (go_at_call 36; (with_reducible refine (HB _ E1).mono ?_); rintro e w2 ⟨rfl, hb2⟩; have E2 := E1.trans (hb2.mono E1.size); have G2 := G1.trans (hb2.mono (by have := G1.size; omega)); clear q0 q1 q2 q3 q4 q5 q6 q7 q8 u0 u1; obtain ⟨⟨q0, q1, q2⟩, ⟨q3, q4, q5, q6, q7, q8⟩, u0, u1⟩ := bx _ G2)
    | (go_at_call 37; (with_reducible refine (HC _ E2).mono ?_); rintro e w3 ⟨rfl, hb3⟩; have E3 := E2.trans (hb3.mono E2.size); have G3 := G2.trans (hb3.mono (by have := G2.size; omega)); clear q0 q1 q2 q3 q4 q5 q6 q7 q8 u0 u1; obtain ⟨⟨q0, q1, q2⟩, ⟨q3, q4, q5, q6, q7, q8⟩, u0, u1⟩ := bx _ G3)
    | (go_at_call 38; (with_reducible refine (HD _ E3).mono ?_); rintro e w4 ⟨rfl, hb4⟩; have E4 := E3.trans (hb4.mono E3.size))
    | (go_at_call 13; (with_reducible refine (HW _).mono ?_); rintro e w5 ⟨rfl, hb5⟩; have E5 := E4.trans (hb5.mono E4.size)))
  go_ret
  exact ⟨rfl, E5⟩

end Go.Proofs.Ytliddinpfgpnfaa
