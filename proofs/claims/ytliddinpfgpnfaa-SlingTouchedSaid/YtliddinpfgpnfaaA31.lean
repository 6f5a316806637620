/- Contract: the law SlingTouched. -/
import Derived.Test.YtliddinpfgpnfaaL10
import Derived.Test.YtliddinpfgpnfaaA20
import Derived.Laws.StructEq
import Derived.Deep.RegionHeld3
namespace Go.Proofs.Ytliddinpfgpnfaa
open Go Go.RowKit Go.Sort
set_option linter.unusedSimpArgs false
set_option linter.unusedVariables false

/-- Five cells of a block stored anew. -/
abbrev setW (w : World) (B : Nat) (a b c d : Int) (p : Bool) : World := ((((w.setCell ⟨B, 0, none⟩ (.int .i64 a)).setCell ⟨B, 1, none⟩ (.int .i64 b)).setCell ⟨B, 2, none⟩ (.int .i64 c)).setCell ⟨B, 3, none⟩ (.int .i64 d)).setCell ⟨B, 4, none⟩ (.bool p)

theorem setW_at {w : World} {B : Nat} {a b c d a' b' c' d' : Int} {p p' : Bool} {T : TypeId} (h : w.heap[B]? = some (.cells #[.int .i64 a', .int .i64 b', .int .i64 c', .int .i64 d', .bool p'] T (0, 0))) :
    (setW w B a b c d p).heap[B]? = some (.cells #[.int .i64 a, .int .i64 b, .int .i64 c, .int .i64 d, .bool p] T (0, 0)) := by
  rw [setW, heap_setCell_at (heap_setCell_at (heap_setCell_at (heap_setCell_at (heap_setCell_at h _) _) _) _) _]
  rfl

theorem setW_ne {w : World} {B k : Nat} (h : k ≠ B) (a b c d : Int) (p : Bool) : (setW w B a b c d p).heap[k]? = w.heap[k]? := by
  rw [setW, heap_setCell_ne h, heap_setCell_ne h, heap_setCell_ne h, heap_setCell_ne h, heap_setCell_ne h]

set_option maxRecDepth 100000 in
set_option maxHeartbeats 40000000 in
theorem law_Touched (vX vY vV : Value) (X Y : List Int) (V : List (List Int)) (cable charge lo hi : Int) (vl : Value) (l : List (Int × Int)) (w : World) (hR : RT w vX vY vV X Y V) (hl : RP w vl l) (hln : l.length ≤ 1000000000000000000) :
    Calls Try.prog 7 #[.agg #[.int .i64 cable, vX, vY, vV, .int .i64 charge], .agg #[.int .i64 lo, .int .i64 hi], vl] w (AllBelow (.bool true) w) := by
  have B2 := hoW_below cable vX vY vV charge lo hi w
  have z2 : (hoW cable vX vY vV charge lo hi w).heap.size = w.heap.size + 1 + 1 := by simp
  have HC := Lib.hid (fun (W : World) (hb : Below w.heap.size w W) => sling_Haul vX vY vV X Y V cable charge lo hi vl l W (hR.below hb) (hl.below hb) hln)
  have HE := Lib.hid (fun (W : World) (hb : Below w.heap.size w W) => ref_CheckWinds cable charge lo hi vX vY vV X Y V W (hR.below hb))
  have HC2 := Lib.hid (fun (W : World) (hb : Below w.heap.size w W) => sling_Haul vX vY vV X Y V cable charge (halfV lo hi) hi vl l W (hR.below hb) (hl.below hb) hln)
  obtain ⟨Al, cl, rfl, hcl⟩ := hl.form
  have bx := fun (W : World) (hb : Below (w.heap.size + 1 + 1) (hoW cable vX vY vV charge lo hi w) W) => box52 hb
  by_cases herr : (haulR cable X Y V charge lo hi l).2.2 = 0
  · obtain ⟨hw, hn, s, hs, hr⟩ := haul_zero herr
    rw [hs] at HC
    rw [hw] at HE
    rw [haul_half hw hn hr] at HC2
    clear herr
    go_enter Try.func7, Try.ntmps7
    go_wp2_with fail
    refine (HC.out _ B2).mono ?_
    rintro e w6 ⟨rfl, hb6⟩
    have E6 := B2.trans (hb6.mono B2.size)
    have G6 : Below (w.heap.size + 1 + 1) (hoW cable vX vY vV charge lo hi w) w6 := hb6.mono (by omega)
    obtain ⟨⟨q0, q1, q2, q3, q4⟩, ⟨q5, q6⟩, q7⟩ := bx _ G6
    have u1 : w.heap.size < w6.heap.size := by omega
    have u2 : w.heap.size + 1 < w6.heap.size := by omega
    go_wp2_with fail
    refine (HE.out _ (E6.alloc E6.size _)).mono ?_
    rintro e w7 ⟨rfl, hb7⟩
    clear q0 q1 q2 q3 q4 q5 q6
    go_wp2_with fail
    go_loopw [10, 11] (fun s10 s11 wr => ∃ (i : Nat) (tc : Int) (t : Hg), s11 = .int .i64 i ∧ s10 = .int .i64 tc ∧ i ≤ l.length ∧ Tch tc t i ∧ runO (refO cable X Y V charge lo hi) t i (l.drop i) = .inl s ∧ Below w7.heap.size w7 wr)
      (fun _ s11 _ => l.length - (intOf s11).toNat)
    case atStart => exact ⟨0, -1, h0, rfl, rfl, by omega, tch0, hr, Below.refl _ _⟩
    case round =>
      as_aux_lemma =>
      obtain ⟨i, tc, t, rfl, rfl, hi1, hT, hrun, hbl⟩ := hrel
      have HT := Lib.hid hT
      have Hrun := Lib.hid hrun
      clear hT hrun
      have F6 : Below w6.heap.size w6 wr := ((Below.refl _ _).alloc (Nat.le_refl _) _).trans ((hb7.trans (hbl.mono hb7.size)).mono (by simp))
      have E2 := E6.trans (F6.mono E6.size)
      have G2 := G6.trans (F6.mono (by omega))
      have hT7 : wr.heap[w6.heap.size]? = _ := ((hb7.trans (hbl.mono hb7.size)).block w6.heap.size (by simp)).trans (heap_alloc_new w6 _)
      obtain ⟨⟨t0, t1, t2, t3, t4⟩, ⟨f0, f1, f2, f3, f4⟩⟩ := hang_cells hT7
      have u3 := blk_lt hT7
      have HT7 := Lib.hid hT7
      clear hT7
      obtain ⟨⟨q0, q1, q2, q3, q4⟩, ⟨q5, q6⟩, q8⟩ := bx _ G2
      by_cases hlt : i < l.length
      · obtain ⟨b, o, c, x, y, e, hb, hx, hcell0, hcell1⟩ := (hl.below E2).at hlt
        cases e
        have i0 : (0 : Int) ≤ (i : Int) := by omega
        have i1 : (i : Int) < (l.length : Int) := by omega
        have hd : ∃ t', refO cable X Y V charge lo hi t x y = some t' ∧ runO (refO cable X Y V charge lo hi) t' (i + 1) (l.drop (i + 1)) = .inl s := by
          have h := Hrun.out
          rw [drop_next hx] at h
          simp only [runO] at h
          cases hd : refO cable X Y V charge lo hi t x y with
          | none => rw [hd] at h; cases h
          | some t' => rw [hd] at h; exact ⟨t', rfl, h⟩
        obtain ⟨t', hd, hr'⟩ := hd
        obtain ⟨a1, a2, a3⟩ := touch_step hd HT.out
        have Hr' := Lib.hid hr'
        have A1 := Lib.hid a1
        have i2 : i ≤ 100 := by omega
        by_cases k3 : x = 3
        · subst k3
          clear a1 a2 a3 hd hr' hx
          go_wp2_with fail
          go_roundw
          case rel => exact ⟨i + 1, i, t', by go_num, rfl, by omega, A1.out, Hr'.out, hbl⟩
          case measure => simp [intOf]; omega
        · rw [if_neg k3] at a1
          have A1 := Lib.hid a1
          by_cases k4 : x = 4
          · subst k4
            obtain ⟨c0, c1⟩ := a2 rfl
            have c2 : decide (tc < 0) = false := by simpa using c0
            have c3 : tc ≤ 100 := by have := HT.out.1; omega
            have c4 : decide (charge < (i : Int) - tc) = false := by simpa using c1
            clear a1 a2 a3 hd hr' hx k3
            go_wp2_with fail
            go_roundw
            case rel => exact ⟨i + 1, tc, t', by go_num, rfl, by omega, A1.out, Hr'.out, hbl⟩
            case measure => simp [intOf]; omega
          · by_cases k6 : x = 6
            · subst k6
              have hcut := a3 rfl
              have hnil := cut_end hcut hr'
              have hlen : l.length = i + 1 := by
                have := congrArg List.length hnil
                simp at this
                omega
              have c2 : decide ((i : Int) < (l.length : Int) - 1) = false := by simp; omega
              clear a1 a2 a3 hd hr' hx k3 k4 hcut hnil
              go_wp2_with fail
              go_roundw
              case rel => exact ⟨i + 1, tc, t', by go_num, rfl, by omega, A1.out, Hr'.out, hbl⟩
              case measure => simp [intOf]; omega
            · clear a1 a2 a3 hd hr' hx
              go_wp2_with fail
              go_roundw
              case rel => exact ⟨i + 1, tc, t', by go_num, rfl, by omega, A1.out, Hr'.out, hbl⟩
              case measure => simp [intOf]; omega
      · obtain rfl : i = l.length := by omega
        go_wp2_with fail
        refine wp_region_held_drew (S := fun w' => Below wr.heap.size wr w') (by kernel_rfl) ((Below.refl _ wr).drew) (fun hHeld => ?_)
        refine wpAnyH_take (i := 0) (oi := _) (v := ?_) rfl (by kernel_rfl) (by kernel_rfl) (by kernel_rfl) (fun _ _ _ h => h) (Or.inl ⟨by kernel_rfl, ?_⟩) hHeld ?_
        rotate_left
        · (intro w' hSw; (obtain ⟨⟨q0, q1, q2, q3, q4⟩, ⟨q5, q6⟩, q8⟩ := bx _ (G2.trans (Below.mono hSw (show w.heap.size + 1 + 1 ≤ wr.heap.size by omega)))); go_simp; try (with_reducible rfl))
        simp only [Act.put, List.setIfInBounds_toArray, List.set_cons_zero, List.set_cons_succ]
        refine wpAnyH_take (i := 1) (oi := _) (v := ?_) rfl (by kernel_rfl) (by kernel_rfl) (by kernel_rfl) (fun _ _ _ h => h) (Or.inl ⟨by kernel_rfl, ?_⟩) hHeld ?_
        rotate_left
        · (intro w' hSw; (obtain ⟨⟨q0, q1, q2, q3, q4⟩, ⟨q5, q6⟩, q8⟩ := bx _ (G2.trans (Below.mono hSw (show w.heap.size + 1 + 1 ≤ wr.heap.size by omega)))); go_simp; try (with_reducible rfl))
        simp only [Act.put, List.setIfInBounds_toArray, List.set_cons_zero, List.set_cons_succ]
        refine wpAnyH_take (i := 3) (oi := _) (v := ?_) rfl (by kernel_rfl) (by kernel_rfl) (by kernel_rfl) (fun _ _ _ h => h) (Or.inl ⟨by kernel_rfl, ?_⟩) hHeld ?_
        rotate_left
        · (intro w' hSw; (obtain ⟨⟨q0, q1, q2, q3, q4⟩, ⟨q5, q6⟩, q8⟩ := bx _ (G2.trans (Below.mono hSw (show w.heap.size + 1 + 1 ≤ wr.heap.size by omega)))); go_simp; try (with_reducible rfl))
        simp only [Act.put, List.setIfInBounds_toArray, List.set_cons_zero, List.set_cons_succ]
        refine wpAnyH_ready (rs := [2, 9]) (by kernel_rfl) (by simp) ?_
        refine AllReadyH.cons (o := _) rfl (fun K hK => ?_) (AllReadyH.cons (o := _) rfl (fun K hK => ?_) AllReadyH.nil)
        · go_simp
          go_at_call 27
          refine (law_half _ _ _).mono ?_
          rintro e w8 ⟨rfl, hb8⟩
          have Ew8 : Below wr.heap.size wr w8 := Below.trans ((Below.refl _ wr).drew) (hb8.mono (by simp))
          go_wp2_with fail
          refine hK.out _ _ ?_ (fun hHeld => ?_)
          · exact Ew8
          clear hK K
          try simp only [Act.put, List.setIfInBounds_toArray, List.set_cons_zero, List.set_cons_succ]
          refine wpAnyH_ready (rs := [4, 9]) (by kernel_rfl) (by simp) ?_
          refine AllReadyH.cons (o := _) rfl (fun K hK => ?_) (AllReadyH.cons (o := _) rfl (fun K hK => ?_) AllReadyH.nil)
          · go_simp
            go_at_call 25
            refine (HC2.out _ (E2.trans ((Ew8).mono E2.size))).mono ?_
            rintro e w9 ⟨rfl, hb9⟩
            have Ew9 : Below wr.heap.size wr w9 := Below.trans (Ew8) (hb9.mono (by first | exact Below.size (Ew8) | simp))
            go_wp2_with fail
            refine hK.out _ _ ?_ (fun hHeld => ?_)
            · exact Ew9
            clear hK K
            try simp only [Act.put, List.setIfInBounds_toArray, List.set_cons_zero, List.set_cons_succ]
            refine wpAnyH_take (i := 5) (oi := _) (v := ?_) rfl (by kernel_rfl) (by kernel_rfl) (by kernel_rfl) (fun _ _ _ h => h) (Or.inl ⟨by kernel_rfl, ?_⟩) hHeld ?_
            rotate_left
            · (intro w' hSw; (obtain ⟨⟨q0, q1, q2, q3, q4⟩, ⟨q5, q6⟩, q8⟩ := bx _ (G2.trans (Below.mono hSw (show w.heap.size + 1 + 1 ≤ wr.heap.size by omega)))); go_simp; try (with_reducible rfl))
            simp only [Act.put, List.setIfInBounds_toArray, List.set_cons_zero, List.set_cons_succ]
            refine wpAnyH_take (i := 6) (oi := _) (v := ?_) rfl (by kernel_rfl) (by kernel_rfl) (by kernel_rfl) (fun _ _ _ h => h) (Or.inl ⟨by kernel_rfl, ?_⟩) hHeld ?_
            rotate_left
            · (intro w' hSw; (obtain ⟨⟨q0, q1, q2, q3, q4⟩, ⟨q5, q6⟩, q8⟩ := bx _ (G2.trans (Below.mono hSw (show w.heap.size + 1 + 1 ≤ wr.heap.size by omega)))); go_simp; try (with_reducible rfl))
            simp only [Act.put, List.setIfInBounds_toArray, List.set_cons_zero, List.set_cons_succ]
            refine wpAnyH_take (i := 7) (oi := _) (v := ?_) rfl (by kernel_rfl) (by kernel_rfl) (by kernel_rfl) (fun _ _ _ h => h) (Or.inl ⟨by kernel_rfl, ?_⟩) hHeld ?_
            rotate_left
            · (intro w' hSw; (obtain ⟨⟨q0, q1, q2, q3, q4⟩, ⟨q5, q6⟩, q8⟩ := bx _ (G2.trans (Below.mono hSw (show w.heap.size + 1 + 1 ≤ wr.heap.size by omega)))); go_simp; try (with_reducible rfl))
            simp only [Act.put, List.setIfInBounds_toArray, List.set_cons_zero, List.set_cons_succ]
            refine wpAnyH_take (i := 8) (oi := _) (v := ?_) rfl (by kernel_rfl) (by kernel_rfl) (by kernel_rfl) (fun _ _ _ h => h) (Or.inl ⟨by kernel_rfl, ?_⟩) hHeld ?_
            rotate_left
            · (intro w' hSw; (obtain ⟨⟨q0, q1, q2, q3, q4⟩, ⟨q5, q6⟩, q8⟩ := bx _ (G2.trans (Below.mono hSw (show w.heap.size + 1 + 1 ≤ wr.heap.size by omega)))); go_simp; try (with_reducible rfl))
            simp only [Act.put, List.setIfInBounds_toArray, List.set_cons_zero, List.set_cons_succ]
            refine wpAnyH_ready (rs := [9]) (by kernel_rfl) (by simp) ?_
            refine AllReadyH.cons (o := _) rfl (fun K hK => ?_) AllReadyH.nil
            go_simp
            refine hK.out _ _ ?_ (fun hHeld => ?_)
            · exact Ew9.alloc Ew9.size _
            clear hK K
            try simp only [Act.put, List.setIfInBounds_toArray, List.set_cons_zero, List.set_cons_succ]
            refine wpAnyH_ready (rs := [10]) (by kernel_rfl) (by simp) ?_
            refine AllReadyH.cons (o := _) rfl (fun K hK => ?_) AllReadyH.nil
            go_simp
            refine hK.out _ _ ?_ (fun hHeld => ?_)
            · exact Ew9.alloc Ew9.size _
            clear hK K
            try simp only [Act.put, List.setIfInBounds_toArray, List.set_cons_zero, List.set_cons_succ]
            refine wpAnyH_ready (rs := [11]) (by kernel_rfl) (by simp) ?_
            refine AllReadyH.cons (o := _) rfl (fun K hK => ?_) AllReadyH.nil
            go_simp
            refine hK.out _ _ ?_ (fun hHeld => ?_)
            · assumption
            clear hK K
            try simp only [Act.put, List.setIfInBounds_toArray, List.set_cons_zero, List.set_cons_succ]
            refine wpAnyH_ready (rs := [12]) (by kernel_rfl) (by simp) ?_
            refine AllReadyH.cons (o := _) rfl (fun K hK => ?_) AllReadyH.nil
            go_simp
            refine hK.out _ _ ?_ (fun hHeld => ?_)
            · assumption
            clear hK K
            try simp only [Act.put, List.setIfInBounds_toArray, List.set_cons_zero, List.set_cons_succ]
            refine wpAnyH_done (by kernel_rfl) ?_ _
            have hX := (Ew9.block w6.heap.size u3).trans HT7.out
            have ⟨⟨m0, m1, m2, m3, m4⟩, ⟨g0, g1, g2, g3, g4⟩⟩ := hang_cells hX
            have u9 := blk_lt hX
            clear hX
            go_wp2_with fail
            refine (law_works _).mono ?_
            rintro e w10 ⟨rfl, hb10⟩
            have E10 : Below w.heap.size w w10 := Below.trans (E2.trans (Below.mono (Ew9.alloc Ew9.size _) E2.size)) (hb10.mono (by exact Below.size (E2.trans (Below.mono (Ew9.alloc Ew9.size _) E2.size))))
            go_wp2
            go_ret
            exact ⟨rfl, E10⟩
          · go_simp
            refine hK.out _ _ ?_ (fun hHeld => ?_)
            · exact Ew8.alloc Ew8.size _
            clear hK K
            try simp only [Act.put, List.setIfInBounds_toArray, List.set_cons_zero, List.set_cons_succ]
            refine wpAnyH_ready (rs := [4]) (by kernel_rfl) (by simp) ?_
            refine AllReadyH.cons (o := _) rfl (fun K hK => ?_) AllReadyH.nil
            go_simp
            go_at_call 25
            refine (HC2.out _ (E2.trans ((Ew8.alloc Ew8.size _).mono E2.size))).mono ?_
            rintro e w9 ⟨rfl, hb9⟩
            have Ew9 : Below wr.heap.size wr w9 := Below.trans (Ew8.alloc Ew8.size _) (hb9.mono (by first | exact Below.size (Ew8.alloc Ew8.size _) | simp))
            go_wp2_with fail
            refine hK.out _ _ ?_ (fun hHeld => ?_)
            · exact Ew9
            clear hK K
            try simp only [Act.put, List.setIfInBounds_toArray, List.set_cons_zero, List.set_cons_succ]
            refine wpAnyH_take (i := 5) (oi := _) (v := ?_) rfl (by kernel_rfl) (by kernel_rfl) (by kernel_rfl) (fun _ _ _ h => h) (Or.inl ⟨by kernel_rfl, ?_⟩) hHeld ?_
            rotate_left
            · (intro w' hSw; (obtain ⟨⟨q0, q1, q2, q3, q4⟩, ⟨q5, q6⟩, q8⟩ := bx _ (G2.trans (Below.mono hSw (show w.heap.size + 1 + 1 ≤ wr.heap.size by omega)))); go_simp; try (with_reducible rfl))
            simp only [Act.put, List.setIfInBounds_toArray, List.set_cons_zero, List.set_cons_succ]
            refine wpAnyH_take (i := 6) (oi := _) (v := ?_) rfl (by kernel_rfl) (by kernel_rfl) (by kernel_rfl) (fun _ _ _ h => h) (Or.inl ⟨by kernel_rfl, ?_⟩) hHeld ?_
            rotate_left
            · (intro w' hSw; (obtain ⟨⟨q0, q1, q2, q3, q4⟩, ⟨q5, q6⟩, q8⟩ := bx _ (G2.trans (Below.mono hSw (show w.heap.size + 1 + 1 ≤ wr.heap.size by omega)))); go_simp; try (with_reducible rfl))
            simp only [Act.put, List.setIfInBounds_toArray, List.set_cons_zero, List.set_cons_succ]
            refine wpAnyH_take (i := 7) (oi := _) (v := ?_) rfl (by kernel_rfl) (by kernel_rfl) (by kernel_rfl) (fun _ _ _ h => h) (Or.inl ⟨by kernel_rfl, ?_⟩) hHeld ?_
            rotate_left
            · (intro w' hSw; (obtain ⟨⟨q0, q1, q2, q3, q4⟩, ⟨q5, q6⟩, q8⟩ := bx _ (G2.trans (Below.mono hSw (show w.heap.size + 1 + 1 ≤ wr.heap.size by omega)))); go_simp; try (with_reducible rfl))
            simp only [Act.put, List.setIfInBounds_toArray, List.set_cons_zero, List.set_cons_succ]
            refine wpAnyH_take (i := 8) (oi := _) (v := ?_) rfl (by kernel_rfl) (by kernel_rfl) (by kernel_rfl) (fun _ _ _ h => h) (Or.inl ⟨by kernel_rfl, ?_⟩) hHeld ?_
            rotate_left
            · (intro w' hSw; (obtain ⟨⟨q0, q1, q2, q3, q4⟩, ⟨q5, q6⟩, q8⟩ := bx _ (G2.trans (Below.mono hSw (show w.heap.size + 1 + 1 ≤ wr.heap.size by omega)))); go_simp; try (with_reducible rfl))
            simp only [Act.put, List.setIfInBounds_toArray, List.set_cons_zero, List.set_cons_succ]
            have nX := (hb9.block w8.heap.size (by simp)).trans (heap_alloc_new w8 _)
            have ⟨⟨v0, v1, v2, v3, v4⟩, ⟨j0, j1, j2, j3, j4⟩⟩ := hang_cells nX
            have uX := blk_lt nX
            have HnX := Lib.hid nX
            clear nX
            refine wpAnyH_ready (rs := [10]) (by kernel_rfl) (by simp) ?_
            refine AllReadyH.cons (o := _) rfl (fun K hK => ?_) AllReadyH.nil
            go_simp
            refine hK.out _ _ ?_ (fun hHeld => ?_)
            · exact set5 Ew9 Ew8.size _ _ _ _ _
            clear hK K
            try simp only [Act.put, List.setIfInBounds_toArray, List.set_cons_zero, List.set_cons_succ]
            refine wpAnyH_ready (rs := [11]) (by kernel_rfl) (by simp) ?_
            refine AllReadyH.cons (o := _) rfl (fun K hK => ?_) AllReadyH.nil
            go_simp
            refine hK.out _ _ ?_ (fun hHeld => ?_)
            · assumption
            clear hK K
            try simp only [Act.put, List.setIfInBounds_toArray, List.set_cons_zero, List.set_cons_succ]
            refine wpAnyH_ready (rs := [12]) (by kernel_rfl) (by simp) ?_
            refine AllReadyH.cons (o := _) rfl (fun K hK => ?_) AllReadyH.nil
            go_simp
            refine hK.out _ _ ?_ (fun hHeld => ?_)
            · assumption
            clear hK K
            try simp only [Act.put, List.setIfInBounds_toArray, List.set_cons_zero, List.set_cons_succ]
            refine wpAnyH_done (by kernel_rfl) ?_ _
            have X6 := (setW_ne (w := w9) (show w6.heap.size ≠ w8.heap.size from by have := Ew8.size; omega) s.L s.W s.S s.C s.cut).trans ((Ew9.block w6.heap.size u3).trans HT7.out)
            have X8 := setW_at (a := s.L) (b := s.W) (c := s.S) (d := s.C) (p := s.cut) HnX.out
            have EF : Below w.heap.size w (setW w9 w8.heap.size s.L s.W s.S s.C s.cut) := E2.trans (Below.mono (set5 Ew9 Ew8.size _ _ _ _ _) E2.size)
            simp only [setW] at X6 X8 EF
            generalize ((((w9.setCell ⟨w8.heap.size, 0, none⟩ (.int .i64 s.L)).setCell ⟨w8.heap.size, 1, none⟩ (.int .i64 s.W)).setCell ⟨w8.heap.size, 2, none⟩ (.int .i64 s.S)).setCell ⟨w8.heap.size, 3, none⟩ (.int .i64 s.C)).setCell ⟨w8.heap.size, 4, none⟩ (.bool s.cut) = wF at X6 X8 EF ⊢
            have ⟨⟨m0, m1, m2, m3, m4⟩, ⟨g0, g1, g2, g3, g4⟩⟩ := hang_cells X6
            have ⟨⟨n0, n1, n2, n3, n4⟩, ⟨l0, l1, l2, l3, l4⟩⟩ := hang_cells X8
            have u9 := blk_lt X6
            have u8 := blk_lt X8
            clear X6 X8 v0 v1 v2 v3 v4 j0 j1 j2 j3 j4
            go_wp2_with fail
            refine (law_works _).mono ?_
            rintro e w10 ⟨rfl, hb10⟩
            have E10 := EF.trans (hb10.mono EF.size)
            go_wp2
            go_ret
            exact ⟨rfl, E10⟩
        · go_simp
          refine hK.out _ _ ?_ (fun hHeld => ?_)
          · exact (Below.refl _ wr).drew.alloc (Nat.le_refl _) _
          clear hK K
          try simp only [Act.put, List.setIfInBounds_toArray, List.set_cons_zero, List.set_cons_succ]
          refine wpAnyH_ready (rs := [2]) (by kernel_rfl) (by simp) ?_
          refine AllReadyH.cons (o := _) rfl (fun K hK => ?_) AllReadyH.nil
          go_simp
          go_at_call 27
          refine (law_half _ _ _).mono ?_
          rintro e w8 ⟨rfl, hb8⟩
          have Ew8 : Below wr.heap.size wr w8 := Below.trans ((Below.refl _ wr).drew.alloc (Nat.le_refl _) _) (hb8.mono (by simp))
          go_wp2_with fail
          refine hK.out _ _ ?_ (fun hHeld => ?_)
          · exact Ew8
          clear hK K
          try simp only [Act.put, List.setIfInBounds_toArray, List.set_cons_zero, List.set_cons_succ]
          refine wpAnyH_ready (rs := [4]) (by kernel_rfl) (by simp) ?_
          refine AllReadyH.cons (o := _) rfl (fun K hK => ?_) AllReadyH.nil
          go_simp
          go_at_call 25
          refine (HC2.out _ (E2.trans ((Ew8).mono E2.size))).mono ?_
          rintro e w9 ⟨rfl, hb9⟩
          have Ew9 : Below wr.heap.size wr w9 := Below.trans (Ew8) (hb9.mono (by first | exact Below.size (Ew8) | simp))
          go_wp2_with fail
          refine hK.out _ _ ?_ (fun hHeld => ?_)
          · exact Ew9
          clear hK K
          try simp only [Act.put, List.setIfInBounds_toArray, List.set_cons_zero, List.set_cons_succ]
          refine wpAnyH_take (i := 5) (oi := _) (v := ?_) rfl (by kernel_rfl) (by kernel_rfl) (by kernel_rfl) (fun _ _ _ h => h) (Or.inl ⟨by kernel_rfl, ?_⟩) hHeld ?_
          rotate_left
          · (intro w' hSw; (obtain ⟨⟨q0, q1, q2, q3, q4⟩, ⟨q5, q6⟩, q8⟩ := bx _ (G2.trans (Below.mono hSw (show w.heap.size + 1 + 1 ≤ wr.heap.size by omega)))); go_simp; try (with_reducible rfl))
          simp only [Act.put, List.setIfInBounds_toArray, List.set_cons_zero, List.set_cons_succ]
          refine wpAnyH_take (i := 6) (oi := _) (v := ?_) rfl (by kernel_rfl) (by kernel_rfl) (by kernel_rfl) (fun _ _ _ h => h) (Or.inl ⟨by kernel_rfl, ?_⟩) hHeld ?_
          rotate_left
          · (intro w' hSw; (obtain ⟨⟨q0, q1, q2, q3, q4⟩, ⟨q5, q6⟩, q8⟩ := bx _ (G2.trans (Below.mono hSw (show w.heap.size + 1 + 1 ≤ wr.heap.size by omega)))); go_simp; try (with_reducible rfl))
          simp only [Act.put, List.setIfInBounds_toArray, List.set_cons_zero, List.set_cons_succ]
          refine wpAnyH_take (i := 7) (oi := _) (v := ?_) rfl (by kernel_rfl) (by kernel_rfl) (by kernel_rfl) (fun _ _ _ h => h) (Or.inl ⟨by kernel_rfl, ?_⟩) hHeld ?_
          rotate_left
          · (intro w' hSw; (obtain ⟨⟨q0, q1, q2, q3, q4⟩, ⟨q5, q6⟩, q8⟩ := bx _ (G2.trans (Below.mono hSw (show w.heap.size + 1 + 1 ≤ wr.heap.size by omega)))); go_simp; try (with_reducible rfl))
          simp only [Act.put, List.setIfInBounds_toArray, List.set_cons_zero, List.set_cons_succ]
          refine wpAnyH_take (i := 8) (oi := _) (v := ?_) rfl (by kernel_rfl) (by kernel_rfl) (by kernel_rfl) (fun _ _ _ h => h) (Or.inl ⟨by kernel_rfl, ?_⟩) hHeld ?_
          rotate_left
          · (intro w' hSw; (obtain ⟨⟨q0, q1, q2, q3, q4⟩, ⟨q5, q6⟩, q8⟩ := bx _ (G2.trans (Below.mono hSw (show w.heap.size + 1 + 1 ≤ wr.heap.size by omega)))); go_simp; try (with_reducible rfl))
          simp only [Act.put, List.setIfInBounds_toArray, List.set_cons_zero, List.set_cons_succ]
          have nX := (hb9.block wr.heap.size (by have := hb8.size; simp at this; omega)).trans ((hb8.block wr.heap.size (by simp)).trans (heap_alloc_new wr.drew _))
          have ⟨⟨v0, v1, v2, v3, v4⟩, ⟨j0, j1, j2, j3, j4⟩⟩ := hang_cells nX
          have uX := blk_lt nX
          have HnX := Lib.hid nX
          clear nX
          refine wpAnyH_ready (rs := [10]) (by kernel_rfl) (by simp) ?_
          refine AllReadyH.cons (o := _) rfl (fun K hK => ?_) AllReadyH.nil
          go_simp
          refine hK.out _ _ ?_ (fun hHeld => ?_)
          · exact set5 Ew9 (Nat.le_refl _) _ _ _ _ _
          clear hK K
          try simp only [Act.put, List.setIfInBounds_toArray, List.set_cons_zero, List.set_cons_succ]
          refine wpAnyH_ready (rs := [11]) (by kernel_rfl) (by simp) ?_
          refine AllReadyH.cons (o := _) rfl (fun K hK => ?_) AllReadyH.nil
          go_simp
          refine hK.out _ _ ?_ (fun hHeld => ?_)
          · assumption
          clear hK K
          try simp only [Act.put, List.setIfInBounds_toArray, List.set_cons_zero, List.set_cons_succ]
          refine wpAnyH_ready (rs := [12]) (by kernel_rfl) (by simp) ?_
          refine AllReadyH.cons (o := _) rfl (fun K hK => ?_) AllReadyH.nil
          go_simp
          refine hK.out _ _ ?_ (fun hHeld => ?_)
          · assumption
          clear hK K
          try simp only [Act.put, List.setIfInBounds_toArray, List.set_cons_zero, List.set_cons_succ]
          refine wpAnyH_done (by kernel_rfl) ?_ _
          have X6 := (setW_ne (w := w9) (show w6.heap.size ≠ wr.heap.size from by omega) s.L s.W s.S s.C s.cut).trans ((Ew9.block w6.heap.size u3).trans HT7.out)
          have X8 := setW_at (a := s.L) (b := s.W) (c := s.S) (d := s.C) (p := s.cut) HnX.out
          have EF : Below w.heap.size w (setW w9 wr.heap.size s.L s.W s.S s.C s.cut) := E2.trans (Below.mono (set5 Ew9 (Nat.le_refl _) _ _ _ _ _) E2.size)
          simp only [setW] at X6 X8 EF
          generalize ((((w9.setCell ⟨wr.heap.size, 0, none⟩ (.int .i64 s.L)).setCell ⟨wr.heap.size, 1, none⟩ (.int .i64 s.W)).setCell ⟨wr.heap.size, 2, none⟩ (.int .i64 s.S)).setCell ⟨wr.heap.size, 3, none⟩ (.int .i64 s.C)).setCell ⟨wr.heap.size, 4, none⟩ (.bool s.cut) = wF at X6 X8 EF ⊢
          have ⟨⟨m0, m1, m2, m3, m4⟩, ⟨g0, g1, g2, g3, g4⟩⟩ := hang_cells X6
          have ⟨⟨n0, n1, n2, n3, n4⟩, ⟨l0, l1, l2, l3, l4⟩⟩ := hang_cells X8
          have u9 := blk_lt X6
          have u8 := blk_lt X8
          clear X6 X8 v0 v1 v2 v3 v4 j0 j1 j2 j3 j4
          go_wp2_with fail
          refine (law_works _).mono ?_
          rintro e w10 ⟨rfl, hb10⟩
          have E10 := EF.trans (hb10.mono EF.size)
          go_wp2
          go_ret
          exact ⟨rfl, E10⟩
  · have h1 : ((haulR cable X Y V charge lo hi l).2.2 != 0) = true := by simpa using herr
    generalize haulR cable X Y V charge lo hi l = h at *
    obtain ⟨⟨L, W0, S, C, cut, t⟩, n, err⟩ := h
    dsimp only at h1
    clear HE HC2 herr
    go_enter Try.func7, Try.ntmps7
    go_wp2_with fail
    refine (HC.out _ B2).mono ?_
    rintro e w6 ⟨rfl, hb6⟩
    have E6 := B2.trans (hb6.mono B2.size)
    go_wp2_with fail
    refine (law_works _).mono ?_
    rintro e w8 ⟨rfl, hb8⟩
    have E8 := (E6.alloc E6.size _).trans (hb8.mono (by simp; have := E6.size; omega))
    go_wp2
    go_ret
    exact ⟨rfl, E8⟩

end Go.Proofs.Ytliddinpfgpnfaa
