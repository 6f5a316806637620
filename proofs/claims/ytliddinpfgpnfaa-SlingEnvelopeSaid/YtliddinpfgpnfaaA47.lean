/- Contract: the law SlingWithin. -/
import Derived.Test.YtliddinpfgpnfaaL15
import Derived.Test.YtliddinpfgpnfaaA44
import Derived.Test.YtliddinpfgpnfaaA20
import Derived.Laws.StructEq
namespace Go.Proofs.Ytliddinpfgpnfaa
open Go Go.RowKit Go.Sort
set_option linter.unusedSimpArgs false
set_option linter.unusedVariables false

abbrev aW (num damp D : Int) (vb : Value) (gl gh ll lh n a v : Int) (vg : Value) (N bl bh : Int) (w : World) : World := (lwW num damp D vb gl gh ll lh n w).alloc (.cells #[.int .i64 a, .int .i64 v, vg, .int .i64 N, .int .i64 bl, .int .i64 bh] 29)

theorem aW_below (num damp D : Int) (vb : Value) (gl gh ll lh n a v : Int) (vg : Value) (N bl bh : Int) (w : World) : Below w.heap.size w (aW num damp D vb gl gh ll lh n a v vg N bl bh w) := (lwW_below num damp D vb gl gh ll lh n w).alloc (by simp; omega) _

theorem aW_cells {num damp D gl gh ll lh n a v N bl bh : Int} {vb vg : Value} {w wr : World} (h : Below (w.heap.size + 1 + 1 + 1) (aW num damp D vb gl gh ll lh n a v vg N bl bh w) wr) :
    (wr.cell? ⟨w.heap.size, 0, none⟩ = some (.int .i64 num) ∧ wr.cell? ⟨w.heap.size, 1, none⟩ = some (.int .i64 damp) ∧ wr.cell? ⟨w.heap.size, 2, none⟩ = some (.int .i64 D)) ∧
    (wr.cell? ⟨w.heap.size + 1, 0, none⟩ = some vb ∧ wr.cell? ⟨w.heap.size + 1, 1, none⟩ = some (.int .i64 gl) ∧ wr.cell? ⟨w.heap.size + 1, 2, none⟩ = some (.int .i64 gh) ∧ wr.cell? ⟨w.heap.size + 1, 3, none⟩ = some (.int .i64 ll) ∧ wr.cell? ⟨w.heap.size + 1, 4, none⟩ = some (.int .i64 lh) ∧ wr.cell? ⟨w.heap.size + 1, 5, none⟩ = some (.int .i64 n)) ∧
    (wr.cell? ⟨w.heap.size + 1 + 1, 0, none⟩ = some (.int .i64 a) ∧ wr.cell? ⟨w.heap.size + 1 + 1, 1, none⟩ = some (.int .i64 v) ∧ wr.cell? ⟨w.heap.size + 1 + 1, 2, none⟩ = some vg) ∧
    w.heap.size < wr.heap.size ∧ w.heap.size + 1 < wr.heap.size ∧ w.heap.size + 1 + 1 < wr.heap.size := by
  have hz : (lwW num damp D vb gl gh ll lh n w).heap.size = w.heap.size + 1 + 1 := by simp
  have h0 : Below (w.heap.size + 1 + 1) (lwW num damp D vb gl gh ll lh n w) wr := ((Below.refl _ _).alloc (by rw [hz]; exact Nat.le_refl _) _).trans (h.mono (by omega))
  obtain ⟨p, q, r, s⟩ := lwW_cells h0
  have e1 : (aW num damp D vb gl gh ll lh n a v vg N bl bh w).heap[w.heap.size + 1 + 1]? = some (.cells #[.int .i64 a, .int .i64 v, vg, .int .i64 N, .int .i64 bl, .int .i64 bh] 29 (0, 0)) := by
    have := heap_alloc_new (lwW num damp D vb gl gh ll lh n w) (.cells #[.int .i64 a, .int .i64 v, vg, .int .i64 N, .int .i64 bl, .int .i64 bh] 29)
    rwa [hz] at this
  have h1 := (h.block (w.heap.size + 1 + 1) (by omega)).trans e1
  exact ⟨p, q, ⟨by simp [blk_cells h1], by simp [blk_cells h1], by simp [blk_cells h1]⟩, r, s, hp_lt h1⟩

abbrev twoW (o1 o2 : Obj) (w : World) : World := (w.alloc o1).alloc o2
theorem twoW_cells {a b c d : Int} {w wr : World} (h : Below (w.heap.size + 1 + 1) (twoW (.cells #[.int .i64 a, .int .i64 b] 24) (.cells #[.int .i64 c, .int .i64 d] 24) w) wr) :
    (wr.cell? ⟨w.heap.size, 0, none⟩ = some (.int .i64 a) ∧ wr.cell? ⟨w.heap.size, 1, none⟩ = some (.int .i64 b)) ∧ (wr.cell? ⟨w.heap.size + 1, 0, none⟩ = some (.int .i64 c) ∧ wr.cell? ⟨w.heap.size + 1, 1, none⟩ = some (.int .i64 d)) ∧ w.heap.size < wr.heap.size ∧ w.heap.size + 1 < wr.heap.size := by
  have h0 := (h.block w.heap.size (by omega)).trans ((Below.heap_alloc _ _ _ (by simp)).trans (heap_alloc_new w _))
  have e1 : (twoW (.cells #[.int .i64 a, .int .i64 b] 24) (.cells #[.int .i64 c, .int .i64 d] 24) w).heap[w.heap.size + 1]? = some (.cells #[.int .i64 c, .int .i64 d] 24 (0, 0)) := by
    have := heap_alloc_new (w.alloc (.cells #[.int .i64 a, .int .i64 b] 24)) (.cells #[.int .i64 c, .int .i64 d] 24)
    rwa [show (w.alloc (.cells #[.int .i64 a, .int .i64 b] 24)).heap.size = w.heap.size + 1 by simp] at this
  have h1 := (h.block (w.heap.size + 1) (by omega)).trans e1
  obtain ⟨x0, x1, _, _⟩ := two_cellsL h0
  obtain ⟨y0, y1, _, _⟩ := two_cellsL h1
  exact ⟨⟨x0, x1⟩, ⟨y0, y1⟩, hp_lt h0, hp_lt h1⟩

theorem less_is {a b c d : Int} {r : Bool} (w : World) (hp : SmallF (a, b)) (hq : SmallF (c, d)) (h : decide (a * d < c * b) = r) : Calls Try.prog 34 #[.agg #[.int .i64 a, .int .i64 b], .agg #[.int .i64 c, .int .i64 d]] w (AllBelow (.bool r) w) := by
  subst h; exact law_less a b c d w hp.1 hp.2.1 hp.2.2 hq.1 hq.2.1 hq.2.2

theorem in_is {vb vg : Value} {gl gh ll lh n a v l0 h0 l1 h1 : Int} {gs : List Int} {r : Bool} (w : World) (hR : RP w vb [(l0, h0), (l1, h1)]) (hG : RI w vg gs) (hl : gs.length ≤ 1000000000000000000) (h : inSB (l0, h0) (l1, h1) (gl, gh) n a v gs = r) :
    Calls Try.prog 32 #[.agg #[vb, .int .i64 gl, .int .i64 gh, .int .i64 ll, .int .i64 lh, .int .i64 n], .agg #[.int .i64 a, .int .i64 v], vg] w (AllBelow (.bool r) w) := by
  subst h; exact law_in vb vg gl gh ll lh n a v l0 h0 l1 h1 gs w hR hG hl

theorem last_is {num damp D a v x y : Int} {vg : Value} {gs : List Int} (w : World) (hR : RI w vg gs) (hE : swingE num damp D a v gs = 0) (h : lastF num damp D a v gs = (x, y)) :
    Calls Try.prog 33 #[.agg #[.int .i64 num, .int .i64 damp, .int .i64 D], .agg #[.int .i64 a, .int .i64 v], vg] w (AllBelow (.tuple #[.agg #[.int .i64 x, .int .i64 y], .bool true]) w) := by
  have := law_last num damp D a v vg gs w hR hE
  rw [h] at this
  exact this

def WitX (x0 x1 : Int) (row : List Int) (w : World) (e : Ending) (w' : World) : Prop := ∃ vr, e = .returned (.tuple #[.agg #[.int .i64 x0, .int .i64 x1], vr, .int .i64 0]) ∧ Below w.heap.size w w' ∧ RI w' vr row

set_option maxRecDepth 100000 in
set_option maxHeartbeats 25600000 in
theorem law_Within (num damp D : Int) (vb : Value) (bs : List (Int × Int)) (gl gh ll lh n a v : Int) (vg : Value) (gs : List Int) (N bl bh : Int) (w : World) (hR : RP w vb bs) (hl : bs.length ≤ 1000000000000000000) (hG : RI w vg gs) (hlg : gs.length ≤ 1000000000000000000) :
    Calls Try.prog 9 #[.agg #[.int .i64 num, .int .i64 damp, .int .i64 D], .agg #[vb, .int .i64 gl, .int .i64 gh, .int .i64 ll, .int .i64 lh, .int .i64 n], .agg #[.int .i64 a, .int .i64 v, vg, .int .i64 N, .int .i64 bl, .int .i64 bh]] w (AllBelow (.bool true) w) := by
  have B3 := aW_below num damp D vb gl gh ll lh n a v vg N bl bh w
  have bx := fun (W : World) (hb : Below (w.heap.size + 1 + 1 + 1) (aW num damp D vb gl gh ll lh n a v vg N bl bh w) W) => aW_cells hb
  have z4 : w.heap.size + 1 + 1 + 1 ≤ (aW num damp D vb gl gh ll lh n a v vg N bl bh w).heap.size := by simp
  have HS := fun (W : World) (hW : Below w.heap.size w W) => ref_CheckSets num damp D vb bs gl gh n W (hR.below hW) hl
  have HW := fun W => law_works W
  have G0 := Below.refl (w.heap.size + 1 + 1 + 1) (aW num damp D vb gl gh ll lh n a v vg N bl bh w)
  by_cases hE : setsE num damp D bs (gl, gh) n [] = 0
  · obtain ⟨l0, h0, l1, h1, m, hr⟩ := sets_zero hE
    obtain ⟨rfl, rfl, hm, hok, hSm, z0, z1, z2, y0, y1, y2, _⟩ := hr
    dsimp only at z2 y2
    have hV := slingV_ok0 hE
    rw [hE] at HS
    have W0 := wit_ok (g := (gl, gh)) hV z0 z1 z2 y0 y1 y2 hm false
    have W1 := wit_ok (g := (gl, gh)) hV z0 z1 z2 y0 y1 y2 hm true
    have HRe := fun (W : World) (hW : Below w.heap.size w W) => sling_Reach num damp D vb [(l0, h0), (l1, h1)] gl gh m W (hR.below hW) hl
    have eR : ∀ high, reachP num damp D [(l0, h0), (l1, h1)] (gl, gh) m high = lowP (mostN num damp D (l0, h0) (l1, h1) (gl, gh) m high) (D ^ m) := fun high => by rw [reachP, if_pos hE]; rfl
    have eS : ∀ high, witS num damp D [(l0, h0), (l1, h1)] (gl, gh) m high = (pickN num damp D (l0, h0) (l1, h1) (gl, gh) m high 0, pickN num damp D (l0, h0) (l1, h1) (gl, gh) m high 1) := fun high => by rw [witS, if_pos hE]; rfl
    have eW : ∀ high, witR num damp D [(l0, h0), (l1, h1)] (gl, gh) m high = rowN num damp D (l0, h0) (l1, h1) (gl, gh) m high := fun high => by rw [witR, if_pos hE]; rfl
    have HWi : ∀ (high : Bool) (W : World) (hW : Below w.heap.size w W), Calls Try.prog 31 #[.agg #[.int .i64 num, .int .i64 damp, .int .i64 D], vb, .agg #[.int .i64 gl, .int .i64 gh], .int .i64 m, .bool high] W (WitX (pickN num damp D (l0, h0) (l1, h1) (gl, gh) m high 0) (pickN num damp D (l0, h0) (l1, h1) (gl, gh) m high 1) (rowN num damp D (l0, h0) (l1, h1) (gl, gh) m high) W) := fun high W hW =>
      (sling_Witness num damp D vb [(l0, h0), (l1, h1)] gl gh m high W (hR.below hW) hl).mono (fun e w' ⟨vr, x1, x2, x3⟩ => ⟨vr, by rw [x1, eS, hE]; rfl, x2, by rw [← eW]; exact x3⟩)
    simp only [ReachV, hE, eR, pairV] at HRe
    have HW0 := HWi false
    have HW1 := HWi true
    have S0 := small_most hok hSm hm false
    have S1 := small_most hok hSm hm true
    have HB := Lib.hid (@in_between num damp D l0 h0 l1 h1 a v (gl, gh) m gs hok hm)
    have L0 := W0.last
    have L1 := W1.last
    clear HWi eR eS eW
    generalize lowP (mostN num damp D (l0, h0) (l1, h1) (gl, gh) m false) (D ^ m) = P at *
    generalize lowP (mostN num damp D (l0, h0) (l1, h1) (gl, gh) m true) (D ^ m) = Q at *
    generalize pickN num damp D (l0, h0) (l1, h1) (gl, gh) m false 0 = s0 at *
    generalize pickN num damp D (l0, h0) (l1, h1) (gl, gh) m false 1 = s1 at *
    generalize rowN num damp D (l0, h0) (l1, h1) (gl, gh) m false = row0 at *
    generalize pickN num damp D (l0, h0) (l1, h1) (gl, gh) m true 0 = t0 at *
    generalize pickN num damp D (l0, h0) (l1, h1) (gl, gh) m true 1 = t1 at *
    generalize rowN num damp D (l0, h0) (l1, h1) (gl, gh) m true = row1 at *
    obtain ⟨P0, P1⟩ := P
    obtain ⟨Q0, Q1⟩ := Q
    have W0' := Lib.hid W0
    have HL0 := Lib.hid L0
    have HL1 := Lib.hid L1
    have W1' := Lib.hid W1
    have FP := fun W => fraction_is (a := P0) (b := P1) S0.2.1 W
    have FQ := fun W => fraction_is (a := Q0) (b := Q1) S1.2.1 W
    dsimp only at HRe HB
    have HRb := Lib.hid hR
    have HGb := Lib.hid hG
    have HS0 := Lib.hid S0
    have HS1 := Lib.hid S1
    clear W0 W1 hR hG S0 S1 hE L0 L1
    obtain ⟨⟨q0, q1, q2⟩, ⟨q3, q4, q5, q6, q7, q8⟩, ⟨p0, p1, p2⟩, u0, u1, u2⟩ := bx _ G0
    go_enter Try.func9, Try.ntmps9
    go_wp2_with (first
      | (go_at_call 29; (with_reducible refine (HS _ B3).mono ?_); rintro e w1 ⟨rfl, hb1⟩; have E1 := B3.trans (hb1.mono B3.size); have G1 := G0.trans (hb1.mono (by have := G0.size; omega)); clear q0 q1 q2 q3 q4 q5 q6 q7 q8 p0 p1 p2 u0 u1 u2; obtain ⟨⟨q0, q1, q2⟩, ⟨q3, q4, q5, q6, q7, q8⟩, ⟨p0, p1, p2⟩, u0, u1, u2⟩ := bx _ G1)
      | (go_at_call 30; (with_reducible refine (HRe _ E1).mono ?_); rintro e w2 ⟨rfl, hb2⟩; have E2 := E1.trans (hb2.mono E1.size); have G2 := G1.trans (hb2.mono (by have := G1.size; omega)); clear q0 q1 q2 q3 q4 q5 q6 q7 q8 p0 p1 p2 u0 u1 u2; obtain ⟨⟨q0, q1, q2⟩, ⟨q3, q4, q5, q6, q7, q8⟩, ⟨p0, p1, p2⟩, u0, u1, u2⟩ := bx _ G2))
    have ET : Below w.heap.size w (twoW (.cells #[.int .i64 P0, .int .i64 P1] 24) (.cells #[.int .i64 Q0, .int .i64 Q1] 24) w2) := (E2.alloc E2.size _).alloc (by simp; have := E2.size; omega) _
    have GT : Below (w.heap.size + 1 + 1 + 1) (aW num damp D vb gl gh ll lh m a v vg N bl bh w) (twoW (.cells #[.int .i64 P0, .int .i64 P1] 24) (.cells #[.int .i64 Q0, .int .i64 Q1] 24) w2) := (G2.alloc (by have := G2.size; omega) _).alloc (by simp; have := G2.size; omega) _
    have by2 := fun (W : World) (hb : Below (w2.heap.size + 1 + 1) (twoW (.cells #[.int .i64 P0, .int .i64 P1] 24) (.cells #[.int .i64 Q0, .int .i64 Q1] 24) w2) W) => twoW_cells hb
    have T0 := Below.refl (w2.heap.size + 1 + 1) (twoW (.cells #[.int .i64 P0, .int .i64 P1] 24) (.cells #[.int .i64 Q0, .int .i64 Q1] 24) w2)
    have zT : w2.heap.size + 1 + 1 ≤ (twoW (.cells #[.int .i64 P0, .int .i64 P1] 24) (.cells #[.int .i64 Q0, .int .i64 Q1] 24) w2).heap.size := by simp
    have zw2 : w.heap.size + 1 + 1 + 1 ≤ w2.heap.size := by have := G2.size; omega
    change Calls _ _ _ (twoW (.cells #[.int .i64 P0, .int .i64 P1] 24) (.cells #[.int .i64 Q0, .int .i64 Q1] 24) w2) _
    generalize twoW (.cells #[.int .i64 P0, .int .i64 P1] 24) (.cells #[.int .i64 Q0, .int .i64 Q1] 24) w2 = wT at *
    have hE := fun (W : World) (T : Below (w2.heap.size + 1 + 1) wT W) => ET.trans (T.mono (by omega))
    have hG := fun {W : World} (T : Below (w2.heap.size + 1 + 1) wT W) => GT.trans (T.mono (by omega))
    clear hb1 hb2 G1 G2 E1 E2 q0 q1 q2 q3 q4 q5 q6 q7 q8 p0 p1 p2 u0 u1 u2
    obtain ⟨⟨q0, q1, q2⟩, ⟨q3, q4, q5, q6, q7, q8⟩, ⟨p0, p1, p2⟩, u0, u1, u2⟩ := bx _ (hG T0)
    obtain ⟨⟨r0, r1⟩, ⟨r2, r3⟩, v0, v1⟩ := by2 _ T0
    go_wp2_with (first
      | (go_at_call 16; (with_reducible refine (FP _).mono ?_); rintro e w3 ⟨rfl, hb3⟩; have T3 := T0.trans (hb3.mono (by have := T0.size; omega)); clear q0 q1 q2 q3 q4 q5 q6 q7 q8 p0 p1 p2 u0 u1 u2 r0 r1 r2 r3 v0 v1; obtain ⟨⟨q0, q1, q2⟩, ⟨q3, q4, q5, q6, q7, q8⟩, ⟨p0, p1, p2⟩, u0, u1, u2⟩ := bx _ (hG T3); obtain ⟨⟨r0, r1⟩, ⟨r2, r3⟩, v0, v1⟩ := by2 _ T3)
      | (go_at_call 16; (with_reducible refine (FQ _).mono ?_); rintro e w4 ⟨rfl, hb4⟩; have T4 := T3.trans (hb4.mono (by have := T3.size; omega)); clear q0 q1 q2 q3 q4 q5 q6 q7 q8 p0 p1 p2 u0 u1 u2 r0 r1 r2 r3 v0 v1; obtain ⟨⟨q0, q1, q2⟩, ⟨q3, q4, q5, q6, q7, q8⟩, ⟨p0, p1, p2⟩, u0, u1, u2⟩ := bx _ (hG T4); obtain ⟨⟨r0, r1⟩, ⟨r2, r3⟩, v0, v1⟩ := by2 _ T4))
    go_loopw [10] (fun s10 wr => ∃ d : Int, s10 = .int .i64 d ∧ (d = 0 ∨ d = 1 ∨ d = 2) ∧ Below (w2.heap.size + 1 + 1) wT wr) (fun s10 _ => (2 - intOf s10).toNat)
    case atStart => exact ⟨0, rfl, Or.inl rfl, T4⟩
    case round =>
      obtain ⟨d, rfl, hd, T5⟩ := hrel
      clear q0 q1 q2 q3 q4 q5 q6 q7 q8 p0 p1 p2 u0 u1 u2 r0 r1 r2 r3 v0 v1
      obtain ⟨⟨q0, q1, q2⟩, ⟨q3, q4, q5, q6, q7, q8⟩, ⟨p0, p1, p2⟩, u0, u1, u2⟩ := bx _ (hG T5)
      obtain ⟨⟨r0, r1⟩, ⟨r2, r3⟩, v0, v1⟩ := by2 _ T5
      rcases hd with rfl | rfl | rfl
      · go_wp2_with (first
          | (go_at_call 31; (with_reducible refine (HW0 _ (hE _ T5)).mono ?_); rintro e w6 ⟨vr, rfl, hb6, hrow⟩; have T6 := T5.trans (hb6.mono (by have := T5.size; omega)); clear q0 q1 q2 q3 q4 q5 q6 q7 q8 p0 p1 p2 u0 u1 u2 r0 r1 r2 r3 v0 v1; obtain ⟨⟨q0, q1, q2⟩, ⟨q3, q4, q5, q6, q7, q8⟩, ⟨p0, p1, p2⟩, u0, u1, u2⟩ := bx _ (hG T6); obtain ⟨⟨r0, r1⟩, ⟨r2, r3⟩, v0, v1⟩ := by2 _ T6; have Hrow := Lib.hid hrow; clear hrow)
          | (go_at_call 32; (with_reducible refine (in_is _ (HRb.out.below ((hE _ T6).alloc (hE _ T6).size _)) (Hrow.out.below ((Below.refl _ _).alloc (Nat.le_refl _) _)) (by rw [W0'.out.len]; omega) W0'.out.isIn).mono ?_); rintro e w7 ⟨rfl, hb7⟩; have F7 := ((Below.refl w6.heap.size w6).alloc (Nat.le_refl _) _).trans (hb7.mono (by simp)); have T7 := T6.trans (F7.mono (by have := T6.size; omega)); obtain ⟨m0, m1, _, _⟩ := two_cellsL ((hb7.block w6.heap.size (by simp)).trans (heap_alloc_new w6 _)); have um := lt_of_cell m0; clear q0 q1 q2 q3 q4 q5 q6 q7 q8 p0 p1 p2 u0 u1 u2 r0 r1 r2 r3 v0 v1; obtain ⟨⟨q0, q1, q2⟩, ⟨q3, q4, q5, q6, q7, q8⟩, ⟨p0, p1, p2⟩, u0, u1, u2⟩ := bx _ (hG T7); obtain ⟨⟨r0, r1⟩, ⟨r2, r3⟩, v0, v1⟩ := by2 _ T7)
          | (go_at_call 33; (with_reducible refine (last_is _ (Hrow.out.below F7) W0'.out.swing HL0.out).mono ?_); rintro e w8 ⟨rfl, hb8⟩; have T8 := T7.trans (hb8.mono (by have := T7.size; omega)); clear q0 q1 q2 q3 q4 q5 q6 q7 q8 p0 p1 p2 u0 u1 u2 r0 r1 r2 r3 v0 v1; obtain ⟨⟨q0, q1, q2⟩, ⟨q3, q4, q5, q6, q7, q8⟩, ⟨p0, p1, p2⟩, u0, u1, u2⟩ := bx _ (hG T8); obtain ⟨⟨r0, r1⟩, ⟨r2, r3⟩, v0, v1⟩ := by2 _ T8))
        go_roundw
        case rel => exact ⟨1, rfl, Or.inr (Or.inl rfl), T8.alloc (by have := T8.size; omega) _⟩
        case measure => simp [intOf]
      · go_wp2_with (first
          | (go_at_call 31; (with_reducible refine (HW1 _ (hE _ T5)).mono ?_); rintro e w6 ⟨vr, rfl, hb6, hrow⟩; have T6 := T5.trans (hb6.mono (by have := T5.size; omega)); clear q0 q1 q2 q3 q4 q5 q6 q7 q8 p0 p1 p2 u0 u1 u2 r0 r1 r2 r3 v0 v1; obtain ⟨⟨q0, q1, q2⟩, ⟨q3, q4, q5, q6, q7, q8⟩, ⟨p0, p1, p2⟩, u0, u1, u2⟩ := bx _ (hG T6); obtain ⟨⟨r0, r1⟩, ⟨r2, r3⟩, v0, v1⟩ := by2 _ T6; have Hrow := Lib.hid hrow; clear hrow)
          | (go_at_call 32; (with_reducible refine (in_is _ (HRb.out.below ((hE _ T6).alloc (hE _ T6).size _)) (Hrow.out.below ((Below.refl _ _).alloc (Nat.le_refl _) _)) (by rw [W1'.out.len]; omega) W1'.out.isIn).mono ?_); rintro e w7 ⟨rfl, hb7⟩; have F7 := ((Below.refl w6.heap.size w6).alloc (Nat.le_refl _) _).trans (hb7.mono (by simp)); have T7 := T6.trans (F7.mono (by have := T6.size; omega)); obtain ⟨m0, m1, _, _⟩ := two_cellsL ((hb7.block w6.heap.size (by simp)).trans (heap_alloc_new w6 _)); have um := lt_of_cell m0; clear q0 q1 q2 q3 q4 q5 q6 q7 q8 p0 p1 p2 u0 u1 u2 r0 r1 r2 r3 v0 v1; obtain ⟨⟨q0, q1, q2⟩, ⟨q3, q4, q5, q6, q7, q8⟩, ⟨p0, p1, p2⟩, u0, u1, u2⟩ := bx _ (hG T7); obtain ⟨⟨r0, r1⟩, ⟨r2, r3⟩, v0, v1⟩ := by2 _ T7)
          | (go_at_call 33; (with_reducible refine (last_is _ (Hrow.out.below F7) W1'.out.swing HL1.out).mono ?_); rintro e w8 ⟨rfl, hb8⟩; have T8 := T7.trans (hb8.mono (by have := T7.size; omega)); clear q0 q1 q2 q3 q4 q5 q6 q7 q8 p0 p1 p2 u0 u1 u2 r0 r1 r2 r3 v0 v1; obtain ⟨⟨q0, q1, q2⟩, ⟨q3, q4, q5, q6, q7, q8⟩, ⟨p0, p1, p2⟩, u0, u1, u2⟩ := bx _ (hG T8); obtain ⟨⟨r0, r1⟩, ⟨r2, r3⟩, v0, v1⟩ := by2 _ T8))
        go_roundw
        case rel => exact ⟨2, rfl, Or.inr (Or.inr rfl), T8.alloc (by have := T8.size; omega) _⟩
        case measure => simp [intOf]
      · cases hin : inSB (l0, h0) (l1, h1) (gl, gh) m a v gs
        · go_wp2_with (first
            | (go_at_call 32; (with_reducible refine (in_is _ (HRb.out.below (hE _ T5)) (HGb.out.below (hE _ T5)) hlg hin).mono ?_); rintro e w7 ⟨rfl, hb7⟩; have E7 := (hE _ T5).trans (hb7.mono (hE _ T5).size))
            | (go_at_call 13; (with_reducible refine (HW _).mono ?_); rintro e w8 ⟨rfl, hb8⟩; have E8 := E7.trans (hb8.mono E7.size)))
          go_ret
          exact ⟨rfl, E8⟩
        · obtain ⟨k1, k2, k3, k4⟩ := HB.out hin
          have hsw := in_swing (g := (gl, gh)) hV y0 y1 y2 (by omega) k2
          have SL := small_last hsw
          have HSW := Lib.hid hsw
          obtain ⟨X, hX⟩ : ∃ X, X = lastF num damp D a v gs := ⟨_, rfl⟩
          rw [← hX] at k3 k4 SL
          obtain ⟨X0, X1⟩ := X
          have HXL := Lib.hid hX.symm
          dsimp only at k3 k4
          have K := Lib.hid (And.intro k3 k4)
          have HSL := Lib.hid SL
          clear k1 k2 k3 k4 hsw hX SL
          go_wp2_with (first
            | (go_at_call 32; (with_reducible refine (in_is _ (HRb.out.below (hE _ T5)) (HGb.out.below (hE _ T5)) hlg hin).mono ?_); rintro e w7 ⟨rfl, hb7⟩; have T7 := T5.trans (hb7.mono (by have := T5.size; omega)); clear q0 q1 q2 q3 q4 q5 q6 q7 q8 p0 p1 p2 u0 u1 u2 r0 r1 r2 r3 v0 v1; obtain ⟨⟨q0, q1, q2⟩, ⟨q3, q4, q5, q6, q7, q8⟩, ⟨p0, p1, p2⟩, u0, u1, u2⟩ := bx _ (hG T7); obtain ⟨⟨r0, r1⟩, ⟨r2, r3⟩, v0, v1⟩ := by2 _ T7)
            | (go_at_call 33; (with_reducible refine (last_is _ (HGb.out.below (hE _ T7)) HSW.out HXL.out).mono ?_); rintro e w8 ⟨rfl, hb8⟩; have T8 := T7.trans (hb8.mono (by have := T7.size; omega)); have T9 := T8.alloc (by have := T8.size; omega) (.cells #[.int .i64 X0, .int .i64 X1] 24); clear q0 q1 q2 q3 q4 q5 q6 q7 q8 p0 p1 p2 u0 u1 u2 r0 r1 r2 r3 v0 v1; obtain ⟨⟨q0, q1, q2⟩, ⟨q3, q4, q5, q6, q7, q8⟩, ⟨p0, p1, p2⟩, u0, u1, u2⟩ := bx _ (hG T8); obtain ⟨⟨r0, r1⟩, ⟨r2, r3⟩, v0, v1⟩ := by2 _ T8)
            | (go_at_call 34; (with_reducible refine (less_is _ HSL.out HS0.out K.out.1).mono ?_); rintro e w10 ⟨rfl, hb10⟩; have T10 := T9.trans (hb10.mono (by have := T9.size; omega)); obtain ⟨m0, m1, _, _⟩ := two_cellsL ((hb10.block w8.heap.size (by simp)).trans (heap_alloc_new w8 _)); have um := lt_of_cell m0; clear q0 q1 q2 q3 q4 q5 q6 q7 q8 p0 p1 p2 u0 u1 u2 r0 r1 r2 r3 v0 v1; obtain ⟨⟨q0, q1, q2⟩, ⟨q3, q4, q5, q6, q7, q8⟩, ⟨p0, p1, p2⟩, u0, u1, u2⟩ := bx _ (hG T10); obtain ⟨⟨r0, r1⟩, ⟨r2, r3⟩, v0, v1⟩ := by2 _ T10)
            | (go_at_call 34; (with_reducible refine (less_is _ HS1.out HSL.out K.out.2).mono ?_); rintro e w11 ⟨rfl, hb11⟩; have T11 := T10.trans (hb11.mono (by have := T10.size; omega)))
            | (go_at_call 13; (with_reducible refine (HW _).mono ?_); rintro e w12 ⟨rfl, hb12⟩; have E12 := (hE _ T11).trans (hb12.mono (hE _ T11).size)))
          go_ret
          exact ⟨rfl, E12⟩
  · have e1 : (setsE num damp D bs (gl, gh) n [] != 0) = true := by simpa using hE
    clear hE
    obtain ⟨⟨q0, q1, q2⟩, ⟨q3, q4, q5, q6, q7, q8⟩, ⟨p0, p1, p2⟩, u0, u1, u2⟩ := bx _ G0
    go_enter Try.func9, Try.ntmps9
    go_wp2_with (first
      | (go_at_call 29; (with_reducible refine (HS _ B3).mono ?_); rintro e w1 ⟨rfl, hb1⟩; have E1 := B3.trans (hb1.mono B3.size); have G1 := G0.trans (hb1.mono (by have := G0.size; omega)); clear q0 q1 q2 q3 q4 q5 q6 q7 q8 p0 p1 p2 u0 u1 u2; obtain ⟨⟨q0, q1, q2⟩, ⟨q3, q4, q5, q6, q7, q8⟩, ⟨p0, p1, p2⟩, u0, u1, u2⟩ := bx _ G1)
      | (go_at_call 13; (with_reducible refine (HW _).mono ?_); rintro e w5 ⟨rfl, hb5⟩; have E5 := E1.trans (hb5.mono E1.size)))
    go_ret
    exact ⟨rfl, E5⟩

end Go.Proofs.Ytliddinpfgpnfaa
