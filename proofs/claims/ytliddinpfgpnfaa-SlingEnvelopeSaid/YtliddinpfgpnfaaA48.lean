/- Contract: the law SlingEnvelope. -/
import Derived.Test.YtliddinpfgpnfaaL16
import Derived.Test.YtliddinpfgpnfaaA47
namespace Go.Proofs.Ytliddinpfgpnfaa
open Go Go.RowKit Go.Sort
set_option linter.unusedSimpArgs false
set_option linter.unusedVariables false

theorem sets_more {num damp D : Int} {bs : List (Int × Int)} {g : Int × Int} {n ll lh : Int} (h : setsE num damp D bs g n [] = 0) : setsE num damp D bs g n [(ll, lh)] = if vs ll lh then 0 else 10 := by
  unfold setsE at h ⊢
  split at h
  · rename_i k1
    split at h
    · rename_i k2
      rw [if_pos k1]
      cases hv : vs ll lh
      · rw [if_neg (by simp [badS, hv])]; rfl
      · rw [if_pos ⟨k2.1, k2.2.1, by simp [badS, hv]⟩, h]; rfl
    · cases h
  · cases h

theorem sets_tick {num damp D : Int} {bs : List (Int × Int)} {g : Int × Int} {m t : Nat} (h : setsE num damp D bs g m [] = 0) (ht : t ≤ m) : setsE num damp D bs g t [] = 0 := by
  obtain ⟨l0, h0, l1, h1, k, hr⟩ := sets_zero h
  obtain ⟨rfl, hk, hm, hok, hSm, z0, z1, z2, y0, y1, y2, _⟩ := hr
  have hV := slingV_ok0 h
  have k2 : boxE [(l0, h0), (l1, h1)] = 0 := by
    rcases boxE_or [(l0, h0), (l1, h1)] with k | k
    · exact k
    · unfold setsE at h; rw [k] at h; simp [hV] at h
  have k3 : vs g.1 g.2 = true := by simp [vs, wi]; omega
  unfold setsE
  rw [if_pos hV, if_pos ⟨k2, k3, rfl⟩, numE, if_pos]
  simp [numB, inB1, wi]
  omega

theorem keeps_val {num damp D l0 h0 l1 h1 ll lh : Int} {g : Int × Int} {m : Nat} (h : setsE num damp D [(l0, h0), (l1, h1)] g m [(ll, lh)] = 0) :
    KeepsV num damp D [(l0, h0), (l1, h1)] g m (ll, lh) = .tuple #[.int .i64 (kT (outB num damp D (l0, h0) (l1, h1) g ll lh) m), .bool (!kB (outB num damp D (l0, h0) (l1, h1) g ll lh) m), .int .i64 0] := by
  rw [KeepsV, keepsT, keepsB, if_pos h, if_pos h, h]; rfl

set_option maxRecDepth 100000 in
set_option maxHeartbeats 25600000 in
theorem law_Envelope (num damp D : Int) (vb : Value) (bs : List (Int × Int)) (gl gh ll lh n a v : Int) (vg : Value) (gs : List Int) (N bl bh : Int) (w : World) (hR : RP w vb bs) (hl : bs.length ≤ 1000000000000000000) (hG : RI w vg gs) (hlg : gs.length ≤ 1000000000000000000) :
    Calls Try.prog 12 #[.agg #[.int .i64 num, .int .i64 damp, .int .i64 D], .agg #[vb, .int .i64 gl, .int .i64 gh, .int .i64 ll, .int .i64 lh, .int .i64 n], .agg #[.int .i64 a, .int .i64 v, vg, .int .i64 N, .int .i64 bl, .int .i64 bh]] w (AllBelow (.bool true) w) := by
  have B3 := aW_below num damp D vb gl gh ll lh n a v vg N bl bh w
  have bx := fun (W : World) (hb : Below (w.heap.size + 1 + 1 + 1) (aW num damp D vb gl gh ll lh n a v vg N bl bh w) W) => aW_cells hb
  have z4 : w.heap.size + 1 + 1 + 1 ≤ (aW num damp D vb gl gh ll lh n a v vg N bl bh w).heap.size := by simp
  have hE := fun (W : World) (hb : Below (w.heap.size + 1 + 1 + 1) (aW num damp D vb gl gh ll lh n a v vg N bl bh w) W) => B3.trans (hb.mono (by omega))
  have HS := fun (W : World) (hW : Below w.heap.size w W) => ref_CheckSets num damp D vb bs gl gh n W (hR.below hW) hl
  have HK := fun (W : World) (hW : Below w.heap.size w W) => sling_Keeps num damp D vb bs gl gh n ll lh W (hR.below hW) hl
  have HW := fun W => law_works W
  have T0 := Below.refl (w.heap.size + 1 + 1 + 1) (aW num damp D vb gl gh ll lh n a v vg N bl bh w)
  by_cases hZ : setsE num damp D bs (gl, gh) n [] = 0
  · obtain ⟨l0, h0, l1, h1, m, hr⟩ := sets_zero hZ
    obtain ⟨rfl, rfl, hm, hok, hSm, z0, z1, z2, y0, y1, y2, _⟩ := hr
    dsimp only at z2 y2
    have hV := slingV_ok0 hZ
    rw [hZ] at HS
    have hM := sets_more (ll := ll) (lh := lh) hZ
    have HRb := Lib.hid hR
    have HGb := Lib.hid hG
    cases hv : vs ll lh
    · rw [hv] at hM
      have HK2 := fun W hW => (show KeepsV num damp D [(l0, h0), (l1, h1)] (gl, gh) m (ll, lh) = Value.tuple #[.int .i64 0, .bool false, .int .i64 10] by rw [KeepsV, keepsT, keepsB, hM]; rfl) ▸ HK W hW
      clear HK hM hv hZ hV hR hG
      obtain ⟨⟨q0, q1, q2⟩, ⟨q3, q4, q5, q6, q7, q8⟩, ⟨p0, p1, p2⟩, u0, u1, u2⟩ := bx _ T0
      go_enter Try.func12, Try.ntmps12
      go_wp2_with (first
        | (go_at_call 29; (with_reducible refine (HS _ (hE _ T0)).mono ?_); rintro e w1 ⟨rfl, hb1⟩; have T1 := T0.trans (hb1.mono (by have := T0.size; omega)); clear q0 q1 q2 q3 q4 q5 q6 q7 q8 p0 p1 p2 u0 u1 u2; obtain ⟨⟨q0, q1, q2⟩, ⟨q3, q4, q5, q6, q7, q8⟩, ⟨p0, p1, p2⟩, u0, u1, u2⟩ := bx _ T1)
        | (go_at_call 35; (with_reducible refine (HK2 _ (hE _ T1)).mono ?_); rintro e w2 ⟨rfl, hb2⟩; have T2 := T1.trans (hb2.mono (by have := T1.size; omega)); clear q0 q1 q2 q3 q4 q5 q6 q7 q8 p0 p1 p2 u0 u1 u2; obtain ⟨⟨q0, q1, q2⟩, ⟨q3, q4, q5, q6, q7, q8⟩, ⟨p0, p1, p2⟩, u0, u1, u2⟩ := bx _ T2)
        | (go_at_call 13; (with_reducible refine (HW _).mono ?_); rintro e w5 ⟨rfl, hb5⟩; have E5 := (hE _ T2).trans (hb5.mono (hE _ T2).size)))
      go_ret
      exact ⟨rfl, E5⟩
    · obtain ⟨v0, v1, v2⟩ := vs_le hv
      rw [hv] at hM
      have hM0 : setsE num damp D [(l0, h0), (l1, h1)] (gl, gh) m [(ll, lh)] = 0 := hM
      have HK2 := fun W hW => (keeps_val hM0) ▸ HK W hW
      have SL := small_lim (l := ll) (by omega)
      have SH := small_lim (l := lh) (by omega)
      cases hf : kF (outB num damp D (l0, h0) (l1, h1) (gl, gh) ll lh) m with
      | some t =>
        obtain ⟨f1, f2, _⟩ := kF_is hf
        rw [(kT_some hf).1, (kT_some hf).2] at HK2
        have hZt := sets_tick hZ f1
        have W0 := wit_ok (g := (gl, gh)) (m := t) hV z0 z1 z2 y0 y1 y2 (by omega) false
        have W1 := wit_ok (g := (gl, gh)) (m := t) hV z0 z1 z2 y0 y1 y2 (by omega) true
        have L0 := W0.last
        have L1 := W1.last
        have eS : ∀ high, witS num damp D [(l0, h0), (l1, h1)] (gl, gh) t high = (pickN num damp D (l0, h0) (l1, h1) (gl, gh) t high 0, pickN num damp D (l0, h0) (l1, h1) (gl, gh) t high 1) := fun high => by rw [witS, if_pos hZt]; rfl
        have eW : ∀ high, witR num damp D [(l0, h0), (l1, h1)] (gl, gh) t high = rowN num damp D (l0, h0) (l1, h1) (gl, gh) t high := fun high => by rw [witR, if_pos hZt]; rfl
        have HWi : ∀ (high : Bool) (W : World) (hW : Below w.heap.size w W), Calls Try.prog 31 #[.agg #[.int .i64 num, .int .i64 damp, .int .i64 D], vb, .agg #[.int .i64 gl, .int .i64 gh], .int .i64 t, .bool high] W (WitX (pickN num damp D (l0, h0) (l1, h1) (gl, gh) t high 0) (pickN num damp D (l0, h0) (l1, h1) (gl, gh) t high 1) (rowN num damp D (l0, h0) (l1, h1) (gl, gh) t high) W) := fun high W hW =>
          (sling_Witness num damp D vb [(l0, h0), (l1, h1)] gl gh t high W (HRb.out.below hW) hl).mono (fun e w' ⟨vr, x1, x2, x3⟩ => ⟨vr, by rw [x1, eS, hZt]; rfl, x2, by rw [← eW]; exact x3⟩)
        have HW0 := HWi false
        have HW1 := HWi true
        have S0 := small_most hok hSm (m := t) (by omega) false
        have S1 := small_most hok hSm (m := t) (by omega) true
        have hp := (pow_small D hok.1 hok.2.1 t (by omega)).1
        have C0 := low_cross (x := mostN num damp D (l0, h0) (l1, h1) (gl, gh) t false) (y := 0) (d := D ^ t) (by omega)
        have C1 := low_cross (x := mostN num damp D (l0, h0) (l1, h1) (gl, gh) t true) (y := 0) (d := D ^ t) (by omega)
        have c1 := C0.2.2.1 ll
        have c2 := C0.2.2.2 lh
        have c3 := C1.2.2.1 ll
        have c4 := C1.2.2.2 lh
        have hout : (decide (mostN num damp D (l0, h0) (l1, h1) (gl, gh) t false < ll * D ^ t) || decide (lh * D ^ t < mostN num damp D (l0, h0) (l1, h1) (gl, gh) t true)) = true := f2
        rw [← c1, ← c4] at hout
        clear HWi eS eW C0 C1 hZt c1 c2 c3 c4 hp f2
        generalize lowP (mostN num damp D (l0, h0) (l1, h1) (gl, gh) t false) (D ^ t) = P at *
        generalize lowP (mostN num damp D (l0, h0) (l1, h1) (gl, gh) t true) (D ^ t) = Q at *
        generalize pickN num damp D (l0, h0) (l1, h1) (gl, gh) t false 0 = s0 at *
        generalize pickN num damp D (l0, h0) (l1, h1) (gl, gh) t false 1 = s1 at *
        generalize rowN num damp D (l0, h0) (l1, h1) (gl, gh) t false = row0 at *
        generalize pickN num damp D (l0, h0) (l1, h1) (gl, gh) t true 0 = t0 at *
        generalize pickN num damp D (l0, h0) (l1, h1) (gl, gh) t true 1 = t1 at *
        generalize rowN num damp D (l0, h0) (l1, h1) (gl, gh) t true = row1 at *
        obtain ⟨P0, P1⟩ := P
        obtain ⟨Q0, Q1⟩ := Q
        dsimp only at hout
        have HL0 := Lib.hid L0
        have HL1 := Lib.hid L1
        have W0' := Lib.hid W0
        have W1' := Lib.hid W1
        have HS0 := Lib.hid S0
        have HS1 := Lib.hid S1
        have HSL := Lib.hid SL
        have HSH := Lib.hid SH
        obtain ⟨d1, hd1⟩ : ∃ z, z = decide (P0 * 1 < ll * P1) := ⟨_, rfl⟩
        obtain ⟨d2, hd2⟩ : ∃ z, z = decide (lh * P1 < P0 * 1) := ⟨_, rfl⟩
        obtain ⟨d3, hd3⟩ : ∃ z, z = decide (Q0 * 1 < ll * Q1) := ⟨_, rfl⟩
        obtain ⟨d4, hd4⟩ : ∃ z, z = decide (lh * Q1 < Q0 * 1) := ⟨_, rfl⟩
        rw [← hd1, ← hd4] at hout
        have X1 := Lib.hid hd1.symm
        have X2 := Lib.hid hd2.symm
        have X3 := Lib.hid hd3.symm
        have X4 := Lib.hid hd4.symm
        have HOut := Lib.hid hout
        have i1 : (0 : Int) ≤ (t : Int) := by omega
        have i2 : (t : Int) ≤ (m : Int) := by omega
        have i3 : (t : Int) ≤ 16 := by omega
        have i4 : decide ((t : Int) < 0) = false := by simp
        have i5 : ¬ (t : Int) < 0 := by omega
        have i6 : ¬ m < t := by omega
        have i7 : decide (m < t) = false := by simpa using f1
        clear W0 W1 L0 L1 S0 S1 SL SH hd1 hd2 hd3 hd4 hout hf HK hR hG hM hM0 hv hZ
        obtain ⟨⟨q0, q1, q2⟩, ⟨q3, q4, q5, q6, q7, q8⟩, ⟨p0, p1, p2⟩, u0, u1, u2⟩ := bx _ T0
        go_enter Try.func12, Try.ntmps12
        go_wp2_with (first
          | (go_at_call 29; (with_reducible refine (HS _ (hE _ T0)).mono ?_); rintro e w1 ⟨rfl, hb1⟩; have T1 := T0.trans (hb1.mono (by have := T0.size; omega)); clear q0 q1 q2 q3 q4 q5 q6 q7 q8 p0 p1 p2 u0 u1 u2; obtain ⟨⟨q0, q1, q2⟩, ⟨q3, q4, q5, q6, q7, q8⟩, ⟨p0, p1, p2⟩, u0, u1, u2⟩ := bx _ T1)
          | (go_at_call 35; (with_reducible refine (HK2 _ (hE _ T1)).mono ?_); rintro e w2 ⟨rfl, hb2⟩; have T2 := T1.trans (hb2.mono (by have := T1.size; omega)); clear q0 q1 q2 q3 q4 q5 q6 q7 q8 p0 p1 p2 u0 u1 u2; obtain ⟨⟨q0, q1, q2⟩, ⟨q3, q4, q5, q6, q7, q8⟩, ⟨p0, p1, p2⟩, u0, u1, u2⟩ := bx _ T2))
        go_loopw [10, 11] (fun s10 s11 wr => ∃ d : Int, s11 = .int .i64 d ∧ ((d = 0 ∧ s10 = .bool false) ∨ (d = 1 ∧ s10 = .bool (d1 || d2)) ∨ (d = 2 ∧ s10 = .bool true)) ∧ Below (w.heap.size + 1 + 1 + 1) (aW num damp D vb gl gh ll lh m a v vg N bl bh w) wr) (fun _ s11 _ => (2 - intOf s11).toNat)
        case atStart => exact ⟨0, rfl, Or.inl ⟨rfl, rfl⟩, T2⟩
        case round =>
          obtain ⟨d, rfl, hd, T5⟩ := hrel
          clear q0 q1 q2 q3 q4 q5 q6 q7 q8 p0 p1 p2 u0 u1 u2
          obtain ⟨⟨q0, q1, q2⟩, ⟨q3, q4, q5, q6, q7, q8⟩, ⟨p0, p1, p2⟩, u0, u1, u2⟩ := bx _ T5
          rcases hd with ⟨rfl, rfl⟩ | ⟨rfl, rfl⟩ | ⟨rfl, rfl⟩
          · cases d1
            · cases d2
              · go_wp2_with (first
                  | (go_at_call 31; (with_reducible refine (HW0 _ (hE _ T5)).mono ?_); rintro e w6 ⟨vr, rfl, hb6, hrow⟩; have T6 := T5.trans (hb6.mono (by have := T5.size; omega)); clear q0 q1 q2 q3 q4 q5 q6 q7 q8 p0 p1 p2 u0 u1 u2; obtain ⟨⟨q0, q1, q2⟩, ⟨q3, q4, q5, q6, q7, q8⟩, ⟨p0, p1, p2⟩, u0, u1, u2⟩ := bx _ T6; obtain ⟨Ar, cr, rfl, hcr⟩ := hrow.formN W0'.out.len; have Hrow := Lib.hid hrow; clear hrow)
                  | (go_at_call 33; (with_reducible refine (last_is _ (Hrow.out.below ((Below.refl _ _).alloc (Nat.le_refl _) _)) W0'.out.swing HL0.out).mono ?_); rintro e w8 ⟨rfl, hb8⟩; have T8 := (T6.alloc (by have := T6.size; omega) _).trans (hb8.mono (by have := T6.size; simp; omega)); have T9 := T8.alloc (by have := T8.size; omega) (.cells #[.int .i64 P0, .int .i64 P1] 24); clear q0 q1 q2 q3 q4 q5 q6 q7 q8 p0 p1 p2 u0 u1 u2; obtain ⟨⟨q0, q1, q2⟩, ⟨q3, q4, q5, q6, q7, q8⟩, ⟨p0, p1, p2⟩, u0, u1, u2⟩ := bx _ T8)
                  | (go_at_call 34; (with_reducible refine (less_is _ HS0.out HSL.out X1.out).mono ?_); rintro e w10 ⟨rfl, hb10⟩; have T10 := T9.trans (hb10.mono (by have := T9.size; omega)); obtain ⟨m0, m1, _, _⟩ := two_cellsL ((hb10.block w8.heap.size (by simp)).trans (heap_alloc_new w8 _)); have um := lt_of_cell m0; clear q0 q1 q2 q3 q4 q5 q6 q7 q8 p0 p1 p2 u0 u1 u2; obtain ⟨⟨q0, q1, q2⟩, ⟨q3, q4, q5, q6, q7, q8⟩, ⟨p0, p1, p2⟩, u0, u1, u2⟩ := bx _ T10)
                  | (go_at_call 34; (with_reducible refine (less_is _ HSH.out HS0.out X2.out).mono ?_); rintro e w11 ⟨rfl, hb11⟩; have T11 := T10.trans (hb11.mono (by have := T10.size; omega))))
                go_roundw
                case rel => exact ⟨1, rfl, Or.inr (Or.inl ⟨rfl, by simp⟩), T11⟩
                case measure => simp [intOf]
              · go_wp2_with (first
                  | (go_at_call 31; (with_reducible refine (HW0 _ (hE _ T5)).mono ?_); rintro e w6 ⟨vr, rfl, hb6, hrow⟩; have T6 := T5.trans (hb6.mono (by have := T5.size; omega)); clear q0 q1 q2 q3 q4 q5 q6 q7 q8 p0 p1 p2 u0 u1 u2; obtain ⟨⟨q0, q1, q2⟩, ⟨q3, q4, q5, q6, q7, q8⟩, ⟨p0, p1, p2⟩, u0, u1, u2⟩ := bx _ T6; obtain ⟨Ar, cr, rfl, hcr⟩ := hrow.formN W0'.out.len; have Hrow := Lib.hid hrow; clear hrow)
                  | (go_at_call 33; (with_reducible refine (last_is _ (Hrow.out.below ((Below.refl _ _).alloc (Nat.le_refl _) _)) W0'.out.swing HL0.out).mono ?_); rintro e w8 ⟨rfl, hb8⟩; have T8 := (T6.alloc (by have := T6.size; omega) _).trans (hb8.mono (by have := T6.size; simp; omega)); have T9 := T8.alloc (by have := T8.size; omega) (.cells #[.int .i64 P0, .int .i64 P1] 24); clear q0 q1 q2 q3 q4 q5 q6 q7 q8 p0 p1 p2 u0 u1 u2; obtain ⟨⟨q0, q1, q2⟩, ⟨q3, q4, q5, q6, q7, q8⟩, ⟨p0, p1, p2⟩, u0, u1, u2⟩ := bx _ T8)
                  | (go_at_call 34; (with_reducible refine (less_is _ HS0.out HSL.out X1.out).mono ?_); rintro e w10 ⟨rfl, hb10⟩; have T10 := T9.trans (hb10.mono (by have := T9.size; omega)); obtain ⟨m0, m1, _, _⟩ := two_cellsL ((hb10.block w8.heap.size (by simp)).trans (heap_alloc_new w8 _)); have um := lt_of_cell m0; clear q0 q1 q2 q3 q4 q5 q6 q7 q8 p0 p1 p2 u0 u1 u2; obtain ⟨⟨q0, q1, q2⟩, ⟨q3, q4, q5, q6, q7, q8⟩, ⟨p0, p1, p2⟩, u0, u1, u2⟩ := bx _ T10)
                  | (go_at_call 34; (with_reducible refine (less_is _ HSH.out HS0.out X2.out).mono ?_); rintro e w11 ⟨rfl, hb11⟩; have T11 := T10.trans (hb11.mono (by have := T10.size; omega))))
                go_roundw
                case rel => exact ⟨1, rfl, Or.inr (Or.inl ⟨rfl, by simp⟩), T11⟩
                case measure => simp [intOf]
            · go_wp2_with (first
                | (go_at_call 31; (with_reducible refine (HW0 _ (hE _ T5)).mono ?_); rintro e w6 ⟨vr, rfl, hb6, hrow⟩; have T6 := T5.trans (hb6.mono (by have := T5.size; omega)); clear q0 q1 q2 q3 q4 q5 q6 q7 q8 p0 p1 p2 u0 u1 u2; obtain ⟨⟨q0, q1, q2⟩, ⟨q3, q4, q5, q6, q7, q8⟩, ⟨p0, p1, p2⟩, u0, u1, u2⟩ := bx _ T6; obtain ⟨Ar, cr, rfl, hcr⟩ := hrow.formN W0'.out.len; have Hrow := Lib.hid hrow; clear hrow)
                | (go_at_call 33; (with_reducible refine (last_is _ (Hrow.out.below ((Below.refl _ _).alloc (Nat.le_refl _) _)) W0'.out.swing HL0.out).mono ?_); rintro e w8 ⟨rfl, hb8⟩; have T8 := (T6.alloc (by have := T6.size; omega) _).trans (hb8.mono (by have := T6.size; simp; omega)); have T9 := T8.alloc (by have := T8.size; omega) (.cells #[.int .i64 P0, .int .i64 P1] 24); clear q0 q1 q2 q3 q4 q5 q6 q7 q8 p0 p1 p2 u0 u1 u2; obtain ⟨⟨q0, q1, q2⟩, ⟨q3, q4, q5, q6, q7, q8⟩, ⟨p0, p1, p2⟩, u0, u1, u2⟩ := bx _ T8)
                | (go_at_call 34; (with_reducible refine (less_is _ HS0.out HSL.out X1.out).mono ?_); rintro e w10 ⟨rfl, hb10⟩; have T10 := T9.trans (hb10.mono (by have := T9.size; omega)); obtain ⟨m0, m1, _, _⟩ := two_cellsL ((hb10.block w8.heap.size (by simp)).trans (heap_alloc_new w8 _)); have um := lt_of_cell m0; clear q0 q1 q2 q3 q4 q5 q6 q7 q8 p0 p1 p2 u0 u1 u2; obtain ⟨⟨q0, q1, q2⟩, ⟨q3, q4, q5, q6, q7, q8⟩, ⟨p0, p1, p2⟩, u0, u1, u2⟩ := bx _ T10)
                | (go_at_call 34; (with_reducible refine (less_is _ HSH.out HS0.out X2.out).mono ?_); rintro e w11 ⟨rfl, hb11⟩; have T11 := T10.trans (hb11.mono (by have := T10.size; omega))))
              go_roundw
              case rel => exact ⟨1, rfl, Or.inr (Or.inl ⟨rfl, by simp⟩), T10⟩
              case measure => simp [intOf]
          · cases d1
            · have hd4 : d4 = true := by simpa using HOut.out
              subst hd4
              cases d2
              · cases d3
                · go_wp2_with (first
                    | (go_at_call 31; (with_reducible refine (HW1 _ (hE _ T5)).mono ?_); rintro e w6 ⟨vr, rfl, hb6, hrow⟩; have T6 := T5.trans (hb6.mono (by have := T5.size; omega)); clear q0 q1 q2 q3 q4 q5 q6 q7 q8 p0 p1 p2 u0 u1 u2; obtain ⟨⟨q0, q1, q2⟩, ⟨q3, q4, q5, q6, q7, q8⟩, ⟨p0, p1, p2⟩, u0, u1, u2⟩ := bx _ T6; obtain ⟨Ar, cr, rfl, hcr⟩ := hrow.formN W1'.out.len; have Hrow := Lib.hid hrow; clear hrow)
                    | (go_at_call 33; (with_reducible refine (last_is _ (Hrow.out.below ((Below.refl _ _).alloc (Nat.le_refl _) _)) W1'.out.swing HL1.out).mono ?_); rintro e w8 ⟨rfl, hb8⟩; have T8 := (T6.alloc (by have := T6.size; omega) _).trans (hb8.mono (by have := T6.size; simp; omega)); have T9 := T8.alloc (by have := T8.size; omega) (.cells #[.int .i64 Q0, .int .i64 Q1] 24); clear q0 q1 q2 q3 q4 q5 q6 q7 q8 p0 p1 p2 u0 u1 u2; obtain ⟨⟨q0, q1, q2⟩, ⟨q3, q4, q5, q6, q7, q8⟩, ⟨p0, p1, p2⟩, u0, u1, u2⟩ := bx _ T8)
                    | (go_at_call 34; (with_reducible refine (less_is _ HS1.out HSL.out X3.out).mono ?_); rintro e w10 ⟨rfl, hb10⟩; have T10 := T9.trans (hb10.mono (by have := T9.size; omega)); obtain ⟨m0, m1, _, _⟩ := two_cellsL ((hb10.block w8.heap.size (by simp)).trans (heap_alloc_new w8 _)); have um := lt_of_cell m0; clear q0 q1 q2 q3 q4 q5 q6 q7 q8 p0 p1 p2 u0 u1 u2; obtain ⟨⟨q0, q1, q2⟩, ⟨q3, q4, q5, q6, q7, q8⟩, ⟨p0, p1, p2⟩, u0, u1, u2⟩ := bx _ T10)
                    | (go_at_call 34; (with_reducible refine (less_is _ HSH.out HS1.out X4.out).mono ?_); rintro e w11 ⟨rfl, hb11⟩; have T11 := T10.trans (hb11.mono (by have := T10.size; omega))))
                  go_roundw
                  case rel => exact ⟨2, rfl, Or.inr (Or.inr ⟨rfl, rfl⟩), T11⟩
                  case measure => simp [intOf]
                · go_wp2_with (first
                    | (go_at_call 31; (with_reducible refine (HW1 _ (hE _ T5)).mono ?_); rintro e w6 ⟨vr, rfl, hb6, hrow⟩; have T6 := T5.trans (hb6.mono (by have := T5.size; omega)); clear q0 q1 q2 q3 q4 q5 q6 q7 q8 p0 p1 p2 u0 u1 u2; obtain ⟨⟨q0, q1, q2⟩, ⟨q3, q4, q5, q6, q7, q8⟩, ⟨p0, p1, p2⟩, u0, u1, u2⟩ := bx _ T6; obtain ⟨Ar, cr, rfl, hcr⟩ := hrow.formN W1'.out.len; have Hrow := Lib.hid hrow; clear hrow)
                    | (go_at_call 33; (with_reducible refine (last_is _ (Hrow.out.below ((Below.refl _ _).alloc (Nat.le_refl _) _)) W1'.out.swing HL1.out).mono ?_); rintro e w8 ⟨rfl, hb8⟩; have T8 := (T6.alloc (by have := T6.size; omega) _).trans (hb8.mono (by have := T6.size; simp; omega)); have T9 := T8.alloc (by have := T8.size; omega) (.cells #[.int .i64 Q0, .int .i64 Q1] 24); clear q0 q1 q2 q3 q4 q5 q6 q7 q8 p0 p1 p2 u0 u1 u2; obtain ⟨⟨q0, q1, q2⟩, ⟨q3, q4, q5, q6, q7, q8⟩, ⟨p0, p1, p2⟩, u0, u1, u2⟩ := bx _ T8)
                    | (go_at_call 34; (with_reducible refine (less_is _ HS1.out HSL.out X3.out).mono ?_); rintro e w10 ⟨rfl, hb10⟩; have T10 := T9.trans (hb10.mono (by have := T9.size; omega)); obtain ⟨m0, m1, _, _⟩ := two_cellsL ((hb10.block w8.heap.size (by simp)).trans (heap_alloc_new w8 _)); have um := lt_of_cell m0; clear q0 q1 q2 q3 q4 q5 q6 q7 q8 p0 p1 p2 u0 u1 u2; obtain ⟨⟨q0, q1, q2⟩, ⟨q3, q4, q5, q6, q7, q8⟩, ⟨p0, p1, p2⟩, u0, u1, u2⟩ := bx _ T10)
                    | (go_at_call 34; (with_reducible refine (less_is _ HSH.out HS1.out X4.out).mono ?_); rintro e w11 ⟨rfl, hb11⟩; have T11 := T10.trans (hb11.mono (by have := T10.size; omega))))
                  go_roundw
                  case rel => exact ⟨2, rfl, Or.inr (Or.inr ⟨rfl, rfl⟩), T10⟩
                  case measure => simp [intOf]
              · go_wp2_with (first
                  | (go_at_call 31; (with_reducible refine (HW1 _ (hE _ T5)).mono ?_); rintro e w6 ⟨vr, rfl, hb6, hrow⟩; have T6 := T5.trans (hb6.mono (by have := T5.size; omega)); clear q0 q1 q2 q3 q4 q5 q6 q7 q8 p0 p1 p2 u0 u1 u2; obtain ⟨⟨q0, q1, q2⟩, ⟨q3, q4, q5, q6, q7, q8⟩, ⟨p0, p1, p2⟩, u0, u1, u2⟩ := bx _ T6; obtain ⟨Ar, cr, rfl, hcr⟩ := hrow.formN W1'.out.len; have Hrow := Lib.hid hrow; clear hrow)
                  | (go_at_call 33; (with_reducible refine (last_is _ (Hrow.out.below ((Below.refl _ _).alloc (Nat.le_refl _) _)) W1'.out.swing HL1.out).mono ?_); rintro e w8 ⟨rfl, hb8⟩; have T8 := (T6.alloc (by have := T6.size; omega) _).trans (hb8.mono (by have := T6.size; simp; omega)); have T9 := T8.alloc (by have := T8.size; omega) (.cells #[.int .i64 Q0, .int .i64 Q1] 24); clear q0 q1 q2 q3 q4 q5 q6 q7 q8 p0 p1 p2 u0 u1 u2; obtain ⟨⟨q0, q1, q2⟩, ⟨q3, q4, q5, q6, q7, q8⟩, ⟨p0, p1, p2⟩, u0, u1, u2⟩ := bx _ T8)
                  | (go_at_call 34; (with_reducible refine (less_is _ HS1.out HSL.out X3.out).mono ?_); rintro e w10 ⟨rfl, hb10⟩; have T10 := T9.trans (hb10.mono (by have := T9.size; omega)); obtain ⟨m0, m1, _, _⟩ := two_cellsL ((hb10.block w8.heap.size (by simp)).trans (heap_alloc_new w8 _)); have um := lt_of_cell m0; clear q0 q1 q2 q3 q4 q5 q6 q7 q8 p0 p1 p2 u0 u1 u2; obtain ⟨⟨q0, q1, q2⟩, ⟨q3, q4, q5, q6, q7, q8⟩, ⟨p0, p1, p2⟩, u0, u1, u2⟩ := bx _ T10)
                  | (go_at_call 34; (with_reducible refine (less_is _ HSH.out HS1.out X4.out).mono ?_); rintro e w11 ⟨rfl, hb11⟩; have T11 := T10.trans (hb11.mono (by have := T10.size; omega))))
                go_roundw
                case rel => exact ⟨2, rfl, Or.inr (Or.inr ⟨rfl, rfl⟩), T9⟩
                case measure => simp [intOf]
            · go_wp2_with (first
                | (go_at_call 31; (with_reducible refine (HW1 _ (hE _ T5)).mono ?_); rintro e w6 ⟨vr, rfl, hb6, hrow⟩; have T6 := T5.trans (hb6.mono (by have := T5.size; omega)); clear q0 q1 q2 q3 q4 q5 q6 q7 q8 p0 p1 p2 u0 u1 u2; obtain ⟨⟨q0, q1, q2⟩, ⟨q3, q4, q5, q6, q7, q8⟩, ⟨p0, p1, p2⟩, u0, u1, u2⟩ := bx _ T6; obtain ⟨Ar, cr, rfl, hcr⟩ := hrow.formN W1'.out.len; have Hrow := Lib.hid hrow; clear hrow)
                | (go_at_call 33; (with_reducible refine (last_is _ (Hrow.out.below ((Below.refl _ _).alloc (Nat.le_refl _) _)) W1'.out.swing HL1.out).mono ?_); rintro e w8 ⟨rfl, hb8⟩; have T8 := (T6.alloc (by have := T6.size; omega) _).trans (hb8.mono (by have := T6.size; simp; omega)); have T9 := T8.alloc (by have := T8.size; omega) (.cells #[.int .i64 Q0, .int .i64 Q1] 24); clear q0 q1 q2 q3 q4 q5 q6 q7 q8 p0 p1 p2 u0 u1 u2; obtain ⟨⟨q0, q1, q2⟩, ⟨q3, q4, q5, q6, q7, q8⟩, ⟨p0, p1, p2⟩, u0, u1, u2⟩ := bx _ T8)
                | (go_at_call 34; (with_reducible refine (less_is _ HS1.out HSL.out X3.out).mono ?_); rintro e w10 ⟨rfl, hb10⟩; have T10 := T9.trans (hb10.mono (by have := T9.size; omega)); obtain ⟨m0, m1, _, _⟩ := two_cellsL ((hb10.block w8.heap.size (by simp)).trans (heap_alloc_new w8 _)); have um := lt_of_cell m0; clear q0 q1 q2 q3 q4 q5 q6 q7 q8 p0 p1 p2 u0 u1 u2; obtain ⟨⟨q0, q1, q2⟩, ⟨q3, q4, q5, q6, q7, q8⟩, ⟨p0, p1, p2⟩, u0, u1, u2⟩ := bx _ T10)
                | (go_at_call 34; (with_reducible refine (less_is _ HSH.out HS1.out X4.out).mono ?_); rintro e w11 ⟨rfl, hb11⟩; have T11 := T10.trans (hb11.mono (by have := T10.size; omega))))
              go_roundw
              case rel => exact ⟨2, rfl, Or.inr (Or.inr ⟨rfl, rfl⟩), T9⟩
              case measure => simp [intOf]
          · go_wp2_with (go_at_call 13; (with_reducible refine (HW _).mono ?_); rintro e w12 ⟨rfl, hb12⟩; have E12 := (hE _ T5).trans (hb12.mono (hE _ T5).size))
            go_ret
            exact ⟨rfl, E12⟩
      | none =>
        rw [(kT_none hf).1, (kT_none hf).2] at HK2
        have hall := kF_not hf
        clear HK hM hM0 hv hR hG hf
        obtain ⟨⟨q0, q1, q2⟩, ⟨q3, q4, q5, q6, q7, q8⟩, ⟨p0, p1, p2⟩, u0, u1, u2⟩ := bx _ T0
        cases hin : inSB (l0, h0) (l1, h1) (gl, gh) m a v gs
        · go_enter Try.func12, Try.ntmps12
          go_wp2_with (first
            | (go_at_call 29; (with_reducible refine (HS _ (hE _ T0)).mono ?_); rintro e w1 ⟨rfl, hb1⟩; have T1 := T0.trans (hb1.mono (by have := T0.size; omega)); clear q0 q1 q2 q3 q4 q5 q6 q7 q8 p0 p1 p2 u0 u1 u2; obtain ⟨⟨q0, q1, q2⟩, ⟨q3, q4, q5, q6, q7, q8⟩, ⟨p0, p1, p2⟩, u0, u1, u2⟩ := bx _ T1)
            | (go_at_call 35; (with_reducible refine (HK2 _ (hE _ T1)).mono ?_); rintro e w2 ⟨rfl, hb2⟩; have T2 := T1.trans (hb2.mono (by have := T1.size; omega)); clear q0 q1 q2 q3 q4 q5 q6 q7 q8 p0 p1 p2 u0 u1 u2; obtain ⟨⟨q0, q1, q2⟩, ⟨q3, q4, q5, q6, q7, q8⟩, ⟨p0, p1, p2⟩, u0, u1, u2⟩ := bx _ T2)
            | (go_at_call 32; (with_reducible refine (in_is _ (HRb.out.below (hE _ T2)) (HGb.out.below (hE _ T2)) hlg hin).mono ?_); rintro e w3 ⟨rfl, hb3⟩; have T3 := T2.trans (hb3.mono (by have := T2.size; omega)); clear q0 q1 q2 q3 q4 q5 q6 q7 q8 p0 p1 p2 u0 u1 u2; obtain ⟨⟨q0, q1, q2⟩, ⟨q3, q4, q5, q6, q7, q8⟩, ⟨p0, p1, p2⟩, u0, u1, u2⟩ := bx _ T3)
            | (go_at_call 13; (with_reducible refine (HW _).mono ?_); rintro e w5 ⟨rfl, hb5⟩; have E5 := (hE _ T3).trans (hb5.mono (hE _ T3).size)))
          go_ret
          exact ⟨rfl, E5⟩
        · obtain ⟨k2, hl0⟩ := inSB_iff.1 hin
          have hlm : gs.length = m := by omega
          have hsw := in_swing (g := (gl, gh)) hV y0 y1 y2 (by omega) k2
          have h0k := env_at hall hlm k2 (k := 0) (by omega)
          simp [runs] at h0k
          have HSW := fun (W : World) (hW : Below w.heap.size w W) => sling_Swing num damp D a v vg gs W (HGb.out.below hW) (by omega)
          have hlen : (swingL num damp D a v gs).length = m := by rw [swingL, if_pos hsw, fr_len]; exact hlm
          have HLn := Lib.hid hlen
          have HE0 := Lib.hid hsw
          have HF := Lib.hid (fun (k : Nat) (hk : k < m) => And.intro (swF_at hsw (k := k) (by omega)) (swF_ok hsw hall hlm k2 hk))
          obtain ⟨Ag, cg, rfl, hcg⟩ := HGb.out.formN hlm
          have HSL := Lib.hid SL
          have HSH := Lib.hid SH
          obtain ⟨e0, e1⟩ := h0k
          clear hlen hsw hl0 hlm hall SL SH hZ
          go_enter Try.func12, Try.ntmps12
          go_wp2_with (first
            | (go_at_call 29; (with_reducible refine (HS _ (hE _ T0)).mono ?_); rintro e w1 ⟨rfl, hb1⟩; have T1 := T0.trans (hb1.mono (by have := T0.size; omega)); clear q0 q1 q2 q3 q4 q5 q6 q7 q8 p0 p1 p2 u0 u1 u2; obtain ⟨⟨q0, q1, q2⟩, ⟨q3, q4, q5, q6, q7, q8⟩, ⟨p0, p1, p2⟩, u0, u1, u2⟩ := bx _ T1)
            | (go_at_call 35; (with_reducible refine (HK2 _ (hE _ T1)).mono ?_); rintro e w2 ⟨rfl, hb2⟩; have T2 := T1.trans (hb2.mono (by have := T1.size; omega)); clear q0 q1 q2 q3 q4 q5 q6 q7 q8 p0 p1 p2 u0 u1 u2; obtain ⟨⟨q0, q1, q2⟩, ⟨q3, q4, q5, q6, q7, q8⟩, ⟨p0, p1, p2⟩, u0, u1, u2⟩ := bx _ T2)
            | (go_at_call 32; (with_reducible refine (in_is _ (HRb.out.below (hE _ T2)) (HGb.out.below (hE _ T2)) hlg hin).mono ?_); rintro e w3 ⟨rfl, hb3⟩; have T3 := T2.trans (hb3.mono (by have := T2.size; omega)); clear q0 q1 q2 q3 q4 q5 q6 q7 q8 p0 p1 p2 u0 u1 u2; obtain ⟨⟨q0, q1, q2⟩, ⟨q3, q4, q5, q6, q7, q8⟩, ⟨p0, p1, p2⟩, u0, u1, u2⟩ := bx _ T3)
            | (go_at_call 14; (with_reducible refine (HSW _ (hE _ T3)).mono ?_); rintro e w4 ⟨vo, rfl, hb4, hro⟩; rw [HE0.out]; obtain ⟨Ao, co, rfl, hco⟩ := RP.formN (RP.of_len hro) HLn.out; have HRO := Lib.hid (RP.of_len hro); have T4 := T3.trans (hb4.mono (by have := T3.size; omega)); clear hro; clear q0 q1 q2 q3 q4 q5 q6 q7 q8 p0 p1 p2 u0 u1 u2; obtain ⟨⟨q0, q1, q2⟩, ⟨q3, q4, q5, q6, q7, q8⟩, ⟨p0, p1, p2⟩, u0, u1, u2⟩ := bx _ T4))
          go_loopw [18] (fun s18 wr => ∃ k : Nat, s18 = .int .i64 k ∧ k ≤ m ∧ Below (w.heap.size + 1 + 1 + 1) (aW num damp D vb gl gh ll lh m a v (.slice Ag m cg) N bl bh w) wr ∧ Below w4.heap.size w4 wr) (fun s18 _ => m - (intOf s18).toNat)
          case atStart => exact ⟨0, rfl, by omega, T4, Below.refl _ _⟩
          case round =>
            obtain ⟨k, rfl, hk, T5, F5⟩ := hrel
            clear q0 q1 q2 q3 q4 q5 q6 q7 q8 p0 p1 p2 u0 u1 u2
            obtain ⟨⟨q0, q1, q2⟩, ⟨q3, q4, q5, q6, q7, q8⟩, ⟨p0, p1, p2⟩, u0, u1, u2⟩ := bx _ T5
            by_cases hlt : k < m
            · obtain ⟨hat, hsm, c1, c2⟩ := HF.out k hlt
              obtain ⟨X, hX⟩ : ∃ X, X = swF num damp D a v gs k := ⟨_, rfl⟩
              rw [← hX] at hat hsm c1 c2
              obtain ⟨X0, X1⟩ := X
              obtain ⟨bo, oo, co', eo, hbo, x0, x1⟩ := RP.atN (HRO.out.below F5) HLn.out hat
              cases eo
              dsimp only at x0 x1 c1 c2
              have K := Lib.hid (And.intro c1 c2)
              have HX := Lib.hid hsm
              clear hX hat hsm c1 c2
              have i1 : (k : Int) < (m : Int) := by omega
              have i2 : (0 : Int) ≤ (k : Int) := by omega
              have FR := fun W => fraction_is (a := X0) (b := X1) HX.out.2.1 W
              have LA := fun W => less_is W HX.out HSL.out K.out.1
              have LB := fun W => less_is W HSH.out HX.out K.out.2
              go_wp2_with fail
              refine rg_all (by kernel_rfl) (by kernel_rfl) ?_
              repeat (go_big_quiet_step ((first | (go_at_call 16; with_reducible exact Calls.regrown_of (FR _)) | (go_at_call 34; with_reducible exact Calls.regrown_of (LA _)) | (go_at_call 34; with_reducible exact Calls.regrown_of (LB _)))))
              refine wpQuiet_nil ?_
              intro w6 hw6
              have hb6 := rg_below hw6
              clear hw6
              go_wp2_with fail
              go_roundw
              case rel => exact ⟨k + 1, by go_num, by omega, T5.trans (hb6.mono (by have := T5.size; omega)), F5.trans (hb6.mono F5.size)⟩
              case measure => simp [intOf]; omega
            · obtain rfl : k = m := by omega
              go_wp2_with (go_at_call 13; (with_reducible refine (HW _).mono ?_); rintro e w5 ⟨rfl, hb5⟩; have E5 := (hE _ T5).trans (hb5.mono (hE _ T5).size))
              go_ret
              exact ⟨rfl, E5⟩
  · have e1 : (setsE num damp D bs (gl, gh) n [] != 0) = true := by simpa using hZ
    clear hZ
    obtain ⟨⟨q0, q1, q2⟩, ⟨q3, q4, q5, q6, q7, q8⟩, ⟨p0, p1, p2⟩, u0, u1, u2⟩ := bx _ T0
    go_enter Try.func12, Try.ntmps12
    go_wp2_with (first
      | (go_at_call 29; (with_reducible refine (HS _ (hE _ T0)).mono ?_); rintro e w1 ⟨rfl, hb1⟩; have T1 := T0.trans (hb1.mono (by have := T0.size; omega)); clear q0 q1 q2 q3 q4 q5 q6 q7 q8 p0 p1 p2 u0 u1 u2; obtain ⟨⟨q0, q1, q2⟩, ⟨q3, q4, q5, q6, q7, q8⟩, ⟨p0, p1, p2⟩, u0, u1, u2⟩ := bx _ T1)
      | (go_at_call 13; (with_reducible refine (HW _).mono ?_); rintro e w5 ⟨rfl, hb5⟩; have E5 := (hE _ T1).trans (hb5.mono (hE _ T1).size)))
    go_ret
    exact ⟨rfl, E5⟩

end Go.Proofs.Ytliddinpfgpnfaa
