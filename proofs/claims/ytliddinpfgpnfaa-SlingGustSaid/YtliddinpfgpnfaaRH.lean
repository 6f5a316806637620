/- Contract of the specification's Gust. -/
import Derived.Test.YtliddinpfgpnfaaRG
namespace Go.Proofs.Ytliddinpfgpnfaa
open Go Go.RowKit Go.Sort
set_option linter.unusedSimpArgs false
set_option linter.unusedVariables false

set_option maxRecDepth 100000 in
set_option maxHeartbeats 6400000 in
theorem ref_Gust (num damp D : Int) (vb : Value) (bs : List (Int × Int)) (n ll lh : Int) (w : World) (hR : RP w vb bs) (hl : bs.length ≤ 1000000000000000000) :
    Calls Try.prog 38 #[.agg #[.int .i64 num, .int .i64 damp, .int .i64 D], vb, .int .i64 n, .agg #[.int .i64 ll, .int .i64 lh]] w (AllBelow (GustV num damp D bs n (ll, lh)) w) := by
  have HV := Lib.hid (show GustV num damp D bs n (ll, lh) = .tuple #[.int .i64 (gustR num damp D bs n (ll, lh)).1, .int .i64 (gustR num damp D bs n (ll, lh)).2] from rfl)
  obtain ⟨A, c, rfl, hc⟩ := hR.form
  have B2 : Below w.heap.size w (nsW num damp D ll lh w) := nsW_below num damp D ll lh w
  have bx := fun (W : World) (hb : Below (w.heap.size + 1 + 1) (nsW num damp D ll lh w) W) => nsW_cells hb
  have z3 : (nsW num damp D ll lh w).heap.size ≤ w.heap.size + 1 + 1 := by simp
  have z4 : w.heap.size + 1 + 1 ≤ (nsW num damp D ll lh w).heap.size := by simp
  have HK := fun (W : World) (hW : Below w.heap.size w W) => ref_Keeps num damp D (.slice A bs.length c) bs 0 0 n ll lh W (hR.below hW) hl
  have G0 := Below.refl (w.heap.size + 1 + 1) (nsW num damp D ll lh w)
  by_cases hE : setsE num damp D bs (0, 0) n [(ll, lh)] = 0
  · have HE := Lib.hid hE
    obtain ⟨l0, h0, l1, h1, m, hr⟩ := sets_zero hE
    obtain ⟨rfl, rfl, hm, hok, hS, _, _, _, _, _, _, hlim⟩ := hr
    obtain ⟨a1, a2, a3⟩ := hlim (ll, lh) (by simp)
    dsimp only at a1 a2 a3
    have hG := Lib.hid (show gustR num damp D [(l0, h0), (l1, h1)] m (ll, lh) = match gDown (gq num damp D (l0, h0) (l1, h1) ll lh m) 100 with | some g => ((g : Int), 0) | none => (0, 3) by
      rw [gustR, if_pos HE.out]; rfl)
    simp only [KeepsV, hE, List.length_cons, List.length_nil, Nat.zero_add, Nat.reduceAdd] at HK
    clear hE
    obtain ⟨kt, hkt⟩ : ∃ z, z = keepsT num damp D [(l0, h0), (l1, h1)] (0, 0) m (ll, lh) := ⟨_, rfl⟩
    obtain ⟨kb, hkb⟩ : ∃ z, z = keepsB num damp D [(l0, h0), (l1, h1)] (0, 0) m (ll, lh) := ⟨_, rfl⟩
    rw [← hkt, ← hkb] at HK
    clear hkt hkb
    obtain ⟨⟨q0, q1, q2⟩, ⟨q3, q4⟩, u1⟩ := bx _ G0
    have u0 : w.heap.size < (nsW num damp D ll lh w).heap.size := by omega
    go_enter Try.func38, Try.ntmps38
    go_wp2_with (go_at_call 36; (with_reducible refine (HK _ B2).mono ?_); rintro e w1 ⟨rfl, hb1⟩)
    have G1 := G0.trans (hb1.mono z4)
    have E1 := B2.trans (hb1.mono B2.size)
    clear q0 q1 q2 q3 q4 u0 u1
    go_wp2_with fail
    go_loopw [13] (fun s13 wr => Below (w.heap.size + 1 + 1) (nsW num damp D ll lh w) wr ∧ ((∃ g : Nat, s13 = .int .i64 g ∧ g ≤ 100 ∧ gDown (gq num damp D (l0, h0) (l1, h1) ll lh m) 100 = gDown (gq num damp D (l0, h0) (l1, h1) ll lh m) g) ∨ (s13 = .int .i64 (-1) ∧ gDown (gq num damp D (l0, h0) (l1, h1) ll lh m) 100 = none))) (fun s13 _ => (intOf s13 + 1).toNat)
    case atStart => exact ⟨G1, Or.inl ⟨100, rfl, by omega, rfl⟩⟩
    case round =>
      obtain ⟨hbl, hs⟩ := hrel
      have ER := B2.trans (hbl.mono (by omega))
      obtain ⟨⟨q0, q1, q2⟩, ⟨q3, q4⟩, u1⟩ := bx _ hbl
      have u0 : w.heap.size < wr.heap.size := by omega
      rcases hs with ⟨g, rfl, hg, hd⟩ | ⟨rfl, hd⟩
      · have Hd := Lib.hid hd
        clear hd
        have i1 : (0 : Int) ≤ (g : Int) := by omega
        have i2 : IntKind.i64.wrap (-(g : Int)) = -(g : Int) := IntWalk.i64_in _ (by omega)
        have HC := ref_keeps num damp D (-(g : Int)) (g : Int) l0 h0 l1 h1 ll lh (.slice A 2 c) m wr (hR.below ER) hok hm (small_gust hS hg) (by omega) (by omega)
        obtain ⟨b0, b1, b2⟩ := kI_T (outB num damp D (l0, h0) (l1, h1) (-(g : Int), (g : Int)) ll lh) m
        have Hq := Lib.hid (show decide (kI (outB num damp D (l0, h0) (l1, h1) (-(g : Int), (g : Int)) ll lh) m < 0) = gq num damp D (l0, h0) (l1, h1) ll lh m g from b2)
        clear b1 b2
        generalize kI (outB num damp D (l0, h0) (l1, h1) (-(g : Int), (g : Int)) ll lh) m = KI at HC b0 Hq
        by_cases h6 : KI < 0
        · have Hq2 := Lib.hid (show gq num damp D (l0, h0) (l1, h1) ll lh m g = true by rw [← Hq.out]; simpa using h6)
          go_wp2_with (go_at_call 77; (with_reducible refine HC.mono ?_); rintro e w2 ⟨rfl, hb2⟩)
          go_ret2
          refine ⟨?_, ER.trans (hb2.mono ER.size)⟩
          rw [HV.out, hG.out, Hd.out, gDown_hit Hq2.out]
          rfl
        · have Hq2 := Lib.hid (show gq num damp D (l0, h0) (l1, h1) ll lh m g = false by rw [← Hq.out]; simpa using h6)
          go_wp2_with (go_at_call 77; (with_reducible refine HC.mono ?_); rintro e w2 ⟨rfl, hb2⟩)
          go_roundw
          case rel =>
            refine ⟨hbl.trans (hb2.mono (by omega)), ?_⟩
            have hst := gDown_step Hq2.out
            by_cases h0 : g = 0
            · right; subst h0; exact ⟨rfl, by rw [Hd.out, hst, if_pos rfl]⟩
            · left; exact ⟨g - 1, by rw [show ((g - 1 : Nat) : Int) = (g : Int) - 1 by omega], by omega, by rw [Hd.out, hst, if_neg h0]⟩
          case measure => simp [intOf]
      · have Hd := Lib.hid hd
        clear hd
        go_wp2
        go_ret2
        refine ⟨?_, ER⟩
        rw [HV.out, hG.out, Hd.out]
        rfl
  · have HE := Lib.hid (show gustR num damp D bs n (ll, lh) = (0, setsE num damp D bs (0, 0) n [(ll, lh)]) by rw [gustR, if_neg hE])
    have e1 : (setsE num damp D bs (0, 0) n [(ll, lh)] != 0) = true := by simpa using hE
    clear hE
    simp only [KeepsV] at HK
    obtain ⟨kt, hkt⟩ : ∃ z, z = keepsT num damp D bs (0, 0) n (ll, lh) := ⟨_, rfl⟩
    obtain ⟨kb, hkb⟩ : ∃ z, z = keepsB num damp D bs (0, 0) n (ll, lh) := ⟨_, rfl⟩
    rw [← hkt, ← hkb] at HK
    clear hkt hkb
    obtain ⟨⟨q0, q1, q2⟩, ⟨q3, q4⟩, u1⟩ := bx _ G0
    have u0 : w.heap.size < (nsW num damp D ll lh w).heap.size := by omega
    go_enter Try.func38, Try.ntmps38
    go_wp2_with (go_at_call 36; (with_reducible refine (HK _ B2).mono ?_); rintro e w1 ⟨rfl, hb1⟩)
    have E1 := B2.trans (hb1.mono B2.size)
    go_wp2_with fail
    go_ret2
    refine ⟨?_, E1⟩
    rw [HV.out, HE.out]
    rfl

end Go.Proofs.Ytliddinpfgpnfaa
