/- Contract: the law SlingGust. -/
import Derived.Test.YtliddinpfgpnfaaL13
import Derived.Test.YtliddinpfgpnfaaA42
namespace Go.Proofs.Ytliddinpfgpnfaa
open Go Go.RowKit Go.Sort
set_option linter.unusedSimpArgs false
set_option linter.unusedVariables false

theorem half_is {lo hi : Int} (h : lo ≤ hi) (h0 : -1000000 ≤ lo) (h1 : hi ≤ 1000000) (w : World) : Calls Try.prog 27 #[.agg #[.int .i64 lo, .int .i64 hi]] w (AllBelow (.agg #[.int .i64 (halfL lo hi), .int .i64 hi]) w) := by
  have e0 : IntKind.i64.wrap (hi - lo) = hi - lo := IntWalk.i64_in _ (by omega)
  have e1 : (0 : Int) ≤ hi - lo := by omega
  have e2 : IntKind.i64.wrap (lo + (hi - lo) / 2) = lo + (hi - lo) / 2 := IntWalk.i64_in _ (by omega)
  have HH := Lib.hid (show halfL lo hi = lo + (hi - lo) / 2 from rfl)
  go_enter Try.func27, Try.ntmps27
  go_wp2
  refine bodyPost_ret (v := .agg #[.int .i64 (lo + (hi - lo) / 2), .int .i64 hi]) (by simp [results, Try.results27, go_sem]) rfl ⟨by rw [HH.out], ?_⟩
  first
    | exact ((Below.refl _ _).alloc (Nat.le_refl _) _).alloc (by simp) _
    | exact ((((Below.refl _ _).alloc (Nat.le_refl _) _).alloc (by simp) _).setCell (by simp) _).setCell (by simp) _

theorem RP.lit2x (w : World) (x0 y0 x1 y1 : Int) : RP (w.alloc (.cells #[.int .i64 x0, .int .i64 y0, .int .i64 x1, .int .i64 y1] 27)) (.slice (some ⟨w.heap.size, 0, none⟩) 2 2) [(x0, y0), (x1, y1)] := by
  have h := heap_alloc_new w (.cells #[.int .i64 x0, .int .i64 y0, .int .i64 x1, .int .i64 y1] 27)
  exact ⟨_, 2, rfl, Nat.le_refl _, rfl, fun j u hu => ⟨w.heap.size, 0, rfl, by
    rcases j with _ | _ | _ | _ | j
    · cases hu; simp [blk_cells h]
    · cases hu; simp [blk_cells h]
    · cases hu; simp [blk_cells h]
    · cases hu; simp [blk_cells h]
    · simp [prs] at hu⟩⟩

set_option maxRecDepth 100000 in
set_option maxHeartbeats 25600000 in
theorem law_Gust (num damp D : Int) (vb : Value) (bs : List (Int × Int)) (gl gh ll lh n : Int) (w : World) (hR : RP w vb bs) (hl : bs.length ≤ 1000000000000000000) :
    Calls Try.prog 11 #[.agg #[.int .i64 num, .int .i64 damp, .int .i64 D], .agg #[vb, .int .i64 gl, .int .i64 gh, .int .i64 ll, .int .i64 lh, .int .i64 n]] w (AllBelow (.bool true) w) := by
  have B2 := lwW_below num damp D vb gl gh ll lh n w
  have bx := fun (W : World) (hb : Below (w.heap.size + 1 + 1) (lwW num damp D vb gl gh ll lh n w) W) => lwW_cells hb
  have z4 : w.heap.size + 1 + 1 ≤ (lwW num damp D vb gl gh ll lh n w).heap.size := by simp
  have HS := fun (W : World) (hW : Below w.heap.size w W) => ref_CheckSets num damp D vb bs gl gh n W (hR.below hW) hl
  have HG := fun (W : World) (hW : Below w.heap.size w W) => sling_Gust num damp D vb bs n ll lh W (hR.below hW) hl
  have HW := fun W => law_works W
  simp only [GustV] at HG
  have G0 := Below.refl (w.heap.size + 1 + 1) (lwW num damp D vb gl gh ll lh n w)
  by_cases hE : setsE num damp D bs (gl, gh) n [] = 0
  · obtain ⟨l0, h0, l1, h1, m, hr⟩ := sets_zero hE
    obtain ⟨rfl, rfl, hm, hok, hSm, z0, z1, z2, y0, y1, y2, _⟩ := hr
    dsimp only at z2 y2
    have hV := slingV_of hE
    have k2 : boxE [(l0, h0), (l1, h1)] = 0 := by
      rcases boxE_or [(l0, h0), (l1, h1)] with k | k
      · exact k
      · unfold setsE at hE; rw [k] at hE; simp [hV] at hE
    rw [hE] at HS
    cases hv : vs ll lh
    · have hg : setsE num damp D [(l0, h0), (l1, h1)] (0, 0) m [(ll, lh)] = 10 := by rw [setsE_lim, hV, hv]; simp
      rw [show gustR num damp D [(l0, h0), (l1, h1)] m (ll, lh) = (0, 10) by rw [gustR, if_neg (by rw [hg]; decide), hg]] at HG
      clear hg hv k2 hV hE
      obtain ⟨⟨q0, q1, q2⟩, ⟨q3, q4, q5, q6, q7, q8⟩, u0, u1⟩ := bx _ G0
      go_enter Try.func11, Try.ntmps11
      go_wp2_with (first
        | (go_at_call 29; (with_reducible refine (HS _ B2).mono ?_); rintro e w1 ⟨rfl, hb1⟩; have E1 := B2.trans (hb1.mono B2.size); have G1 := G0.trans (hb1.mono (by have := G0.size; omega)); clear q0 q1 q2 q3 q4 q5 q6 q7 q8 u0 u1; obtain ⟨⟨q0, q1, q2⟩, ⟨q3, q4, q5, q6, q7, q8⟩, u0, u1⟩ := bx _ G1)
        | (go_at_call 37; (with_reducible refine (HG _ E1).mono ?_); rintro e w2 ⟨rfl, hb2⟩; have E2 := E1.trans (hb2.mono E1.size); have G2 := G1.trans (hb2.mono (by have := G1.size; omega)); clear q0 q1 q2 q3 q4 q5 q6 q7 q8 u0 u1; obtain ⟨⟨q0, q1, q2⟩, ⟨q3, q4, q5, q6, q7, q8⟩, u0, u1⟩ := bx _ G2)
        | (go_at_call 13; (with_reducible refine (HW _).mono ?_); rintro e w3 ⟨rfl, hb3⟩; have E3 := E2.trans (hb3.mono E2.size)))
      go_ret
      exact ⟨rfl, E3⟩
    · obtain ⟨v0, v1, v2⟩ := vs_le hv
      have hlim : ([(ll, lh)] : List (Int × Int)).any badS = false := by simp [badS, hv]
      have hn : (0 : Int) ≤ (m : Int) ∧ (m : Int) ≤ 16 := by omega
      have hg0 : setsE num damp D [(l0, h0), (l1, h1)] (0, 0) m [(ll, lh)] = 0 := sets_of hV z0 z1 (by decide) y0 y1 (by decide) hn hlim
      have hgR : gustR num damp D [(l0, h0), (l1, h1)] m (ll, lh) = match gDown (gq num damp D (l0, h0) (l1, h1) ll lh m) 100 with | some g => ((g : Int), 0) | none => (0, 3) := by rw [gustR, if_pos hg0]; rfl
      -- the tests
      have hk := fun (g : Int × Int) (a2 : g.1 ≤ g.2) (b2 : -100 ≤ g.1 ∧ g.2 ≤ 100) => keeps_yes (sets_of (g := g) (lims := [(ll, lh)]) hV z0 z1 a2 y0 y1 b2 hn hlim)
      have HKg := fun (g : Int × Int) (a2 : g.1 ≤ g.2) (b2 : -100 ≤ g.1 ∧ g.2 ≤ 100) (W : World) (hW : Below w.heap.size w W) => (hk g a2 b2) ▸ sling_Keeps num damp D vb [(l0, h0), (l1, h1)] g.1 g.2 m ll lh W (hR.below hW) hl
      have HK3 := HKg (gl, gh) z2 y2
      -- the small sets
      have c0 := halfL_in z0
      have c1 := halfL_in z1
      have c2 := halfL_in z2
      have hks : KeepsV num damp D [(halfL l0 h0, h0), (halfL l1 h1, h1)] (halfL gl gh, gh) m (ll, lh) = _ := keeps_yes (sets_of (g := (halfL gl gh, gh)) (lims := [(ll, lh)]) hV c0.2 c1.2 c2.2 (by omega) (by omega) (by dsimp only; omega) hn hlim)
      have HK4 := fun (vs : Value) (W : World) (hRs : RP W vs [(halfL l0 h0, h0), (halfL l1 h1, h1)]) => hks ▸ sling_Keeps num damp D vs [(halfL l0 h0, h0), (halfL l1 h1, h1)] (halfL gl gh) gh m ll lh W hRs (by simp)
      have hsub : kB (outB num damp D (l0, h0) (l1, h1) (gl, gh) ll lh) m = false → kB (outB num damp D (halfL l0 h0, h0) (halfL l1 h1, h1) (halfL gl gh, gh) ll lh) m = false := keeps_sub num damp D (half_span z0 z1 z2)
      generalize kB (outB num damp D (halfL l0 h0, h0) (halfL l1 h1, h1) (halfL gl gh, gh) ll lh) m = so at HK4 hsub
      generalize kT (outB num damp D (halfL l0 h0, h0) (halfL l1 h1, h1) (halfL gl gh, gh) ll lh) m = tso at HK4
      generalize kB (outB num damp D (l0, h0) (l1, h1) (gl, gh) ll lh) m = is at HK3 hsub
      generalize kT (outB num damp D (l0, h0) (l1, h1) (gl, gh) ll lh) m = tis at HK3
      have Hsub := Lib.hid hsub
      have HH0 := fun W => half_is (lo := l0) (hi := h0) z0 (by omega) (by omega) W
      have HH1 := fun W => half_is (lo := l1) (hi := h1) z1 (by omega) (by omega) W
      have HH2 := fun W => half_is (lo := gl) (hi := gh) z2 (by omega) (by omega) W
      generalize halfL l0 h0 = a0 at HK4 HH0
      generalize halfL l1 h1 = a1 at HK4 HH1
      generalize halfL gl gh = a2 at HK4 HH2
      have HKg := Lib.hid HKg
      obtain ⟨bb, ob, cb, rfl, hcb, hbb, r0, r1, r2, r3⟩ := hR.open2
      have HRb := Lib.hid hR
      clear hsub c0 c1 c2 hks hk hg0 k2 hE hR
      cases hd : gDown (gq num damp D (l0, h0) (l1, h1) ll lh m) 100 with
      | none =>
        rw [hd] at hgR
        rw [hgR] at HG
        have hq := gDown_none hd 0 (by omega)
        have HKb := HKg.out (0, 0) (by decide) (by decide)
        have hkb : kB (outB num damp D (l0, h0) (l1, h1) (0, 0) ll lh) m = true := by simpa [gq] using hq
        rw [hkb] at HKb
        generalize kT (outB num damp D (l0, h0) (l1, h1) (0, 0) ll lh) m = tb at HKb
        dsimp only [Bool.not_true] at HKb HG
        clear hkb hq hd hgR HKg
        obtain ⟨⟨q0, q1, q2⟩, ⟨q3, q4, q5, q6, q7, q8⟩, u0, u1⟩ := bx _ G0
        cases is
        all_goals
          first | (obtain rfl := Hsub.out rfl) | skip
          go_enter Try.func11, Try.ntmps11
          go_wp2_with (first
            | (go_at_call 29; (with_reducible refine (HS _ B2).mono ?_); rintro e w1 ⟨rfl, hb1⟩; have E1 := B2.trans (hb1.mono B2.size); have G1 := G0.trans (hb1.mono (by have := G0.size; omega)); clear q0 q1 q2 q3 q4 q5 q6 q7 q8 u0 u1; obtain ⟨⟨q0, q1, q2⟩, ⟨q3, q4, q5, q6, q7, q8⟩, u0, u1⟩ := bx _ G1)
            | (go_at_call 37; (with_reducible refine (HG _ E1).mono ?_); rintro e w2 ⟨rfl, hb2⟩; have E2 := E1.trans (hb2.mono E1.size); have G2 := G1.trans (hb2.mono (by have := G1.size; omega)); clear q0 q1 q2 q3 q4 q5 q6 q7 q8 u0 u1; obtain ⟨⟨q0, q1, q2⟩, ⟨q3, q4, q5, q6, q7, q8⟩, u0, u1⟩ := bx _ G2)
            | (go_at_call 35; (with_reducible refine (HKb _ E2).mono ?_); rintro e w3 ⟨rfl, hb3⟩; have E3 := E2.trans (hb3.mono E2.size); have G3 := G2.trans (hb3.mono (by have := G2.size; omega)); clear q0 q1 q2 q3 q4 q5 q6 q7 q8 u0 u1; obtain ⟨⟨q0, q1, q2⟩, ⟨q3, q4, q5, q6, q7, q8⟩, u0, u1⟩ := bx _ G3)
            | (go_at_call 35; (with_reducible refine (HK3 _ E3).mono ?_); rintro e w4 ⟨rfl, hb4⟩; have E4 := E3.trans (hb4.mono E3.size); have G4 := G3.trans (hb4.mono (by have := G3.size; omega)); clear q0 q1 q2 q3 q4 q5 q6 q7 q8 u0 u1; obtain ⟨⟨q0, q1, q2⟩, ⟨q3, q4, q5, q6, q7, q8⟩, u0, u1⟩ := bx _ G4))
          have EW := HRb.out.below E4
          obtain ⟨bb2, ob2, cb2, e2, hcb2, hbb2, r4, r5, r6, r7⟩ := EW.open2
          cases e2
          clear EW r0 r1 r2 r3
          refine rg_tail 10 (by kernel_rfl) (by kernel_rfl) ?_
          simp only [List.take_succ_cons, List.take_zero, List.drop_succ_cons, List.drop_zero]
          repeat (go_big_quiet_step ((first | (go_at_call 27; with_reducible exact Calls.regrown_of (HH0 _)) | (go_at_call 27; with_reducible exact Calls.regrown_of (HH1 _)))))
          refine wpQuiet_nil ?_
          intro w8 hw8
          have hb8 := rg_below hw8
          have E8 := E4.trans (hb8.mono E4.size)
          have G8 := G4.trans (hb8.mono (by have := G4.size; omega))
          clear hw8
          clear q0 q1 q2 q3 q4 q5 q6 q7 q8 u0 u1; obtain ⟨⟨q0, q1, q2⟩, ⟨q3, q4, q5, q6, q7, q8⟩, u0, u1⟩ := bx _ G8
          go_wp2_with fail
          have RS8 := RP.lit2x w8 a0 h0 a1 h1
          have E9' := E8.alloc E8.size (.cells #[.int .i64 a0, .int .i64 h0, .int .i64 a1, .int .i64 h1] 27)
          have G9' := G8.alloc (by have := G8.size; omega) (.cells #[.int .i64 a0, .int .i64 h0, .int .i64 a1, .int .i64 h1] 27)
          refine wp_any (fun w9 => Below w.heap.size w w9 ∧ Below (w.heap.size + 1 + 1) (lwW num damp D (.slice (some ⟨bb, ob, none⟩) 2 cb) gl gh ll lh m w) w9 ∧ RP w9 (.slice (some ⟨w8.heap.size, 0, none⟩) 2 2) [(a0, h0), (a1, h1)]) ⟨E9', G9', RS8⟩ ?_
          rintro w9 ⟨E9, G9, RS9⟩
          clear E9' G9' RS8
          clear q0 q1 q2 q3 q4 q5 q6 q7 q8 u0 u1; obtain ⟨⟨q0, q1, q2⟩, ⟨q3, q4, q5, q6, q7, q8⟩, u0, u1⟩ := bx _ G9
          have HK5 := Lib.hid (fun (W : World) (hW : Below w9.heap.size w9 W) => HK4 _ W (RS9.below hW))
          refine rg_all (by kernel_rfl) (by kernel_rfl) ?_
          repeat (go_big_quiet_step ((first | (go_at_call 27; with_reducible exact Calls.regrown_of (HH2 _)) | (go_at_call 35; with_reducible exact Calls.regrown_of (HK5.out _ (below_regrown _ _ _))))))
          refine wpQuiet_nil ?_
          intro w10 hw10
          have hb10 := rg_below hw10
          have E10 := E9.trans (hb10.mono E9.size)
          clear hw10
          go_wp2_with (go_at_call 13; (with_reducible refine (HW _).mono ?_); rintro e w11 ⟨rfl, hb11⟩; have E11 := E10.trans (hb11.mono E10.size))
          go_ret
          exact ⟨rfl, E11⟩
      | some r =>
        obtain ⟨hr0, hq, hq2⟩ := gDown_is hd
        rw [hd] at hgR
        rw [hgR] at HG
        have HKa := HKg.out (-(r : Int), (r : Int)) (by dsimp only; omega) (by dsimp only; omega)
        have hka : kB (outB num damp D (l0, h0) (l1, h1) (-(r : Int), (r : Int)) ll lh) m = false := by simpa [gq] using hq
        rw [hka] at HKa
        generalize kT (outB num damp D (l0, h0) (l1, h1) (-(r : Int), (r : Int)) ll lh) m = ta at HKa
        dsimp only [Bool.not_false] at HKa HG
        have i1 : (0 : Int) ≤ (r : Int) := by omega
        have i2 : (r : Int) ≤ 100 := by omega
        have i3 : IntKind.i64.wrap (-(r : Int)) = -(r : Int) := IntWalk.i64_in _ (by omega)
        by_cases h100 : r = 100
        · have i4 : ¬ (r : Int) < 100 := by omega
          clear h100 hka hq hq2 hd hgR HKg
          obtain ⟨⟨q0, q1, q2⟩, ⟨q3, q4, q5, q6, q7, q8⟩, u0, u1⟩ := bx _ G0
          cases is
          all_goals
            first | (obtain rfl := Hsub.out rfl) | skip
            go_enter Try.func11, Try.ntmps11
            go_wp2_with (first
              | (go_at_call 29; (with_reducible refine (HS _ B2).mono ?_); rintro e w1 ⟨rfl, hb1⟩; have E1 := B2.trans (hb1.mono B2.size); have G1 := G0.trans (hb1.mono (by have := G0.size; omega)); clear q0 q1 q2 q3 q4 q5 q6 q7 q8 u0 u1; obtain ⟨⟨q0, q1, q2⟩, ⟨q3, q4, q5, q6, q7, q8⟩, u0, u1⟩ := bx _ G1)
              | (go_at_call 37; (with_reducible refine (HG _ E1).mono ?_); rintro e w2 ⟨rfl, hb2⟩; have E2 := E1.trans (hb2.mono E1.size); have G2 := G1.trans (hb2.mono (by have := G1.size; omega)); clear q0 q1 q2 q3 q4 q5 q6 q7 q8 u0 u1; obtain ⟨⟨q0, q1, q2⟩, ⟨q3, q4, q5, q6, q7, q8⟩, u0, u1⟩ := bx _ G2)
              | (go_at_call 35; (with_reducible refine (HKa _ E2).mono ?_); rintro e w3 ⟨rfl, hb3⟩; have E3 := E2.trans (hb3.mono E2.size); have G3 := G2.trans (hb3.mono (by have := G2.size; omega)); clear q0 q1 q2 q3 q4 q5 q6 q7 q8 u0 u1; obtain ⟨⟨q0, q1, q2⟩, ⟨q3, q4, q5, q6, q7, q8⟩, u0, u1⟩ := bx _ G3)
              | (go_at_call 35; (with_reducible refine (HK3 _ E3).mono ?_); rintro e w4 ⟨rfl, hb4⟩; have E4 := E3.trans (hb4.mono E3.size); have G4 := G3.trans (hb4.mono (by have := G3.size; omega)); clear q0 q1 q2 q3 q4 q5 q6 q7 q8 u0 u1; obtain ⟨⟨q0, q1, q2⟩, ⟨q3, q4, q5, q6, q7, q8⟩, u0, u1⟩ := bx _ G4))
            have EW := HRb.out.below E4
            obtain ⟨bb2, ob2, cb2, e2, hcb2, hbb2, r4, r5, r6, r7⟩ := EW.open2
            cases e2
            clear EW r0 r1 r2 r3
            refine rg_tail 10 (by kernel_rfl) (by kernel_rfl) ?_
            simp only [List.take_succ_cons, List.take_zero, List.drop_succ_cons, List.drop_zero]
            repeat (go_big_quiet_step ((first | (go_at_call 27; with_reducible exact Calls.regrown_of (HH0 _)) | (go_at_call 27; with_reducible exact Calls.regrown_of (HH1 _)))))
            refine wpQuiet_nil ?_
            intro w8 hw8
            have hb8 := rg_below hw8
            have E8 := E4.trans (hb8.mono E4.size)
            have G8 := G4.trans (hb8.mono (by have := G4.size; omega))
            clear hw8
            clear q0 q1 q2 q3 q4 q5 q6 q7 q8 u0 u1; obtain ⟨⟨q0, q1, q2⟩, ⟨q3, q4, q5, q6, q7, q8⟩, u0, u1⟩ := bx _ G8
            go_wp2_with fail
            have RS8 := RP.lit2x w8 a0 h0 a1 h1
            have E9' := E8.alloc E8.size (.cells #[.int .i64 a0, .int .i64 h0, .int .i64 a1, .int .i64 h1] 27)
            have G9' := G8.alloc (by have := G8.size; omega) (.cells #[.int .i64 a0, .int .i64 h0, .int .i64 a1, .int .i64 h1] 27)
            refine wp_any (fun w9 => Below w.heap.size w w9 ∧ Below (w.heap.size + 1 + 1) (lwW num damp D (.slice (some ⟨bb, ob, none⟩) 2 cb) gl gh ll lh m w) w9 ∧ RP w9 (.slice (some ⟨w8.heap.size, 0, none⟩) 2 2) [(a0, h0), (a1, h1)]) ⟨E9', G9', RS8⟩ ?_
            rintro w9 ⟨E9, G9, RS9⟩
            clear E9' G9' RS8
            clear q0 q1 q2 q3 q4 q5 q6 q7 q8 u0 u1; obtain ⟨⟨q0, q1, q2⟩, ⟨q3, q4, q5, q6, q7, q8⟩, u0, u1⟩ := bx _ G9
            have HK5 := Lib.hid (fun (W : World) (hW : Below w9.heap.size w9 W) => HK4 _ W (RS9.below hW))
            refine rg_all (by kernel_rfl) (by kernel_rfl) ?_
            repeat (go_big_quiet_step ((first | (go_at_call 27; with_reducible exact Calls.regrown_of (HH2 _)) | (go_at_call 35; with_reducible exact Calls.regrown_of (HK5.out _ (below_regrown _ _ _))))))
            refine wpQuiet_nil ?_
            intro w10 hw10
            have hb10 := rg_below hw10
            have E10 := E9.trans (hb10.mono E9.size)
            clear hw10
            go_wp2_with (go_at_call 13; (with_reducible refine (HW _).mono ?_); rintro e w11 ⟨rfl, hb11⟩; have E11 := E10.trans (hb11.mono E10.size))
            go_ret
            exact ⟨rfl, E11⟩
        · have HKb := HKg.out (-(r : Int) - 1, (r : Int) + 1) (by dsimp only; omega) (by dsimp only; omega)
          have hkb : kB (outB num damp D (l0, h0) (l1, h1) (-(r : Int) - 1, (r : Int) + 1) ll lh) m = true := by
            have := hq2 (r + 1) (by omega) (by omega)
            simp only [gq, Bool.not_eq_false'] at this
            rw [show -(r : Int) - 1 = -((r + 1 : Nat) : Int) by push_cast; omega, show (r : Int) + 1 = ((r + 1 : Nat) : Int) by push_cast; omega]
            exact this
          rw [hkb] at HKb
          generalize kT (outB num damp D (l0, h0) (l1, h1) (-(r : Int) - 1, (r : Int) + 1) ll lh) m = tb at HKb
          dsimp only [Bool.not_true] at HKb
          have i4 : (r : Int) < 100 := by omega
          have i5 : IntKind.i64.wrap (-(r : Int) - 1) = -(r : Int) - 1 := IntWalk.i64_in _ (by omega)
          clear hka hkb hq hq2 hd hgR HKg h100
          obtain ⟨⟨q0, q1, q2⟩, ⟨q3, q4, q5, q6, q7, q8⟩, u0, u1⟩ := bx _ G0
          cases is
          all_goals
            first | (obtain rfl := Hsub.out rfl) | skip
            go_enter Try.func11, Try.ntmps11
            go_wp2_with (first
              | (go_at_call 29; (with_reducible refine (HS _ B2).mono ?_); rintro e w1 ⟨rfl, hb1⟩; have E1 := B2.trans (hb1.mono B2.size); have G1 := G0.trans (hb1.mono (by have := G0.size; omega)); clear q0 q1 q2 q3 q4 q5 q6 q7 q8 u0 u1; obtain ⟨⟨q0, q1, q2⟩, ⟨q3, q4, q5, q6, q7, q8⟩, u0, u1⟩ := bx _ G1)
              | (go_at_call 37; (with_reducible refine (HG _ E1).mono ?_); rintro e w2 ⟨rfl, hb2⟩; have E2 := E1.trans (hb2.mono E1.size); have G2 := G1.trans (hb2.mono (by have := G1.size; omega)); clear q0 q1 q2 q3 q4 q5 q6 q7 q8 u0 u1; obtain ⟨⟨q0, q1, q2⟩, ⟨q3, q4, q5, q6, q7, q8⟩, u0, u1⟩ := bx _ G2)
              | (go_at_call 35; (with_reducible refine (HKa _ E2).mono ?_); rintro e w3 ⟨rfl, hb3⟩; have E3 := E2.trans (hb3.mono E2.size); have G3 := G2.trans (hb3.mono (by have := G2.size; omega)); clear q0 q1 q2 q3 q4 q5 q6 q7 q8 u0 u1; obtain ⟨⟨q0, q1, q2⟩, ⟨q3, q4, q5, q6, q7, q8⟩, u0, u1⟩ := bx _ G3)
              | (go_at_call 35; (with_reducible refine (HKb _ E3).mono ?_); rintro e w4 ⟨rfl, hb4⟩; have E4 := E3.trans (hb4.mono E3.size); have G4 := G3.trans (hb4.mono (by have := G3.size; omega)); clear q0 q1 q2 q3 q4 q5 q6 q7 q8 u0 u1; obtain ⟨⟨q0, q1, q2⟩, ⟨q3, q4, q5, q6, q7, q8⟩, u0, u1⟩ := bx _ G4)
              | (go_at_call 35; (with_reducible refine (HK3 _ E4).mono ?_); rintro e w5 ⟨rfl, hb5⟩; have E5 := E4.trans (hb5.mono E4.size); have G5 := G4.trans (hb5.mono (by have := G4.size; omega)); clear q0 q1 q2 q3 q4 q5 q6 q7 q8 u0 u1; obtain ⟨⟨q0, q1, q2⟩, ⟨q3, q4, q5, q6, q7, q8⟩, u0, u1⟩ := bx _ G5))
            have EW := HRb.out.below E5
            obtain ⟨bb2, ob2, cb2, e2, hcb2, hbb2, r4, r5, r6, r7⟩ := EW.open2
            cases e2
            clear EW r0 r1 r2 r3
            refine rg_tail 10 (by kernel_rfl) (by kernel_rfl) ?_
            simp only [List.take_succ_cons, List.take_zero, List.drop_succ_cons, List.drop_zero]
            repeat (go_big_quiet_step ((first | (go_at_call 27; with_reducible exact Calls.regrown_of (HH0 _)) | (go_at_call 27; with_reducible exact Calls.regrown_of (HH1 _)))))
            refine wpQuiet_nil ?_
            intro w8 hw8
            have hb8 := rg_below hw8
            have E8 := E5.trans (hb8.mono E5.size)
            have G8 := G5.trans (hb8.mono (by have := G5.size; omega))
            clear hw8
            clear q0 q1 q2 q3 q4 q5 q6 q7 q8 u0 u1; obtain ⟨⟨q0, q1, q2⟩, ⟨q3, q4, q5, q6, q7, q8⟩, u0, u1⟩ := bx _ G8
            go_wp2_with fail
            have RS8 := RP.lit2x w8 a0 h0 a1 h1
            have E9' := E8.alloc E8.size (.cells #[.int .i64 a0, .int .i64 h0, .int .i64 a1, .int .i64 h1] 27)
            have G9' := G8.alloc (by have := G8.size; omega) (.cells #[.int .i64 a0, .int .i64 h0, .int .i64 a1, .int .i64 h1] 27)
            refine wp_any (fun w9 => Below w.heap.size w w9 ∧ Below (w.heap.size + 1 + 1) (lwW num damp D (.slice (some ⟨bb, ob, none⟩) 2 cb) gl gh ll lh m w) w9 ∧ RP w9 (.slice (some ⟨w8.heap.size, 0, none⟩) 2 2) [(a0, h0), (a1, h1)]) ⟨E9', G9', RS8⟩ ?_
            rintro w9 ⟨E9, G9, RS9⟩
            clear E9' G9' RS8
            clear q0 q1 q2 q3 q4 q5 q6 q7 q8 u0 u1; obtain ⟨⟨q0, q1, q2⟩, ⟨q3, q4, q5, q6, q7, q8⟩, u0, u1⟩ := bx _ G9
            have HK5 := Lib.hid (fun (W : World) (hW : Below w9.heap.size w9 W) => HK4 _ W (RS9.below hW))
            refine rg_all (by kernel_rfl) (by kernel_rfl) ?_
            repeat (go_big_quiet_step ((first | (go_at_call 27; with_reducible exact Calls.regrown_of (HH2 _)) | (go_at_call 35; with_reducible exact Calls.regrown_of (HK5.out _ (below_regrown _ _ _))))))
            refine wpQuiet_nil ?_
            intro w10 hw10
            have hb10 := rg_below hw10
            have E10 := E9.trans (hb10.mono E9.size)
            clear hw10
            go_wp2_with (go_at_call 13; (with_reducible refine (HW _).mono ?_); rintro e w11 ⟨rfl, hb11⟩; have E11 := E10.trans (hb11.mono E10.size))
            go_ret
            exact ⟨rfl, E11⟩
  · have e1 : (setsE num damp D bs (gl, gh) n [] != 0) = true := by simpa using hE
    clear hE
    obtain ⟨⟨q0, q1, q2⟩, ⟨q3, q4, q5, q6, q7, q8⟩, u0, u1⟩ := bx _ G0
    go_enter Try.func11, Try.ntmps11
    go_wp2_with (first
      | (go_at_call 29; (with_reducible refine (HS _ B2).mono ?_); rintro e w1 ⟨rfl, hb1⟩; have E1 := B2.trans (hb1.mono B2.size))
      | (go_at_call 13; (with_reducible refine (HW _).mono ?_); rintro e w5 ⟨rfl, hb5⟩; have E5 := E1.trans (hb5.mono E1.size)))
    go_ret
    exact ⟨rfl, E5⟩

end Go.Proofs.Ytliddinpfgpnfaa
