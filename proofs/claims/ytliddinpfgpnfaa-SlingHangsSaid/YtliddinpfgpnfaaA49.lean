/- Contract: the law SlingHangs. -/
import Derived.Test.YtliddinpfgpnfaaL17
import Derived.Test.YtliddinpfgpnfaaB7
import Derived.Test.YtliddinpfgpnfaaA20
namespace Go.Proofs.Ytliddinpfgpnfaa
open Go Go.RowKit Go.Sort
set_option linter.unusedSimpArgs false
set_option linter.unusedVariables false

theorem hang_car {cable : Int} {X Y : List Int} {V : List (List Int)} {charge lo hi c : Int} {i : Nat} {s : Hg} (hw : windsE cable X Y V charge lo hi = 0) (h : Hng cable X Y V lo hi i c s) (hW : 0 < s.W) :
    carR cable X Y V charge lo hi s.L s.W = (true, 0) ∧ BoundV X Y V s.L s.L lo hi = .tuple #[.agg #[.int .i64 (lowB X Y V s.L s.L lo hi), .int .i64 (highB X Y V s.L s.L lo hi)], .int .i64 0] ∧ s.W ≤ lowB X Y V s.L s.L lo hi := by
  have hO := windsE_zero hw
  have hb := h.bear hW
  refine ⟨?_, ?_, ?_⟩
  · rw [car_eq, carS, if_neg (by rw [hw]; simp), if_neg (by simp [wi]; exact ⟨h.vd.l0, h.vd.l1⟩), if_neg (by simp [wi]; exact ⟨by omega, h.wm⟩), hb]
  · rw [BoundV, if_pos (hO.points h.vd.l0 (Int.le_refl _) h.vd.l1)]
  · rw [bear_low hO h.vd.l0 h.vd.l1, decide_eq_true_eq] at hb; exact hb

theorem cnt5_le (l : List (Int × Int)) : 0 ≤ cnt5 l ∧ cnt5 l ≤ l.length := by
  unfold cnt5
  have := List.length_filter_le (fun x : Int × Int => decide (x.1 = 5)) l
  omega

theorem cnt_cases {l : List (Int × Int)} {i : Nat} (hi : i ≤ l.length) : (i = 0 ∧ cnt5 (l.take i) = cnt5 (l.take (i - 1))) ∨ (0 < i ∧ ∃ x y, l[i - 1]? = some (x, y) ∧ ((x = 5 ∧ cnt5 (l.take i) = cnt5 (l.take (i - 1)) + 1) ∨ (x ≠ 5 ∧ cnt5 (l.take i) = cnt5 (l.take (i - 1))))) := by
  by_cases h : i = 0
  · left; subst h; exact ⟨rfl, rfl⟩
  · right
    have hx : l[i - 1]? = some l[i - 1] := List.getElem?_eq_getElem (by omega)
    have ht : l.take i = l.take (i - 1) ++ [l[i - 1]] := by
      have h2 : l.take (i - 1 + 1) = l.take (i - 1) ++ [l[i - 1]] := by rw [List.take_add_one, hx]; rfl
      rwa [show i - 1 + 1 = i by omega] at h2
    refine ⟨by omega, l[i - 1].1, l[i - 1].2, hx, ?_⟩
    rw [ht, cnt5_snoc]
    by_cases h5 : l[i - 1].1 = 5
    · left; exact ⟨h5, by rw [if_pos h5]⟩
    · right; exact ⟨h5, by rw [if_neg h5]⟩

theorem RP.takeN {w : World} {A : Option Addr} {n c i : Nat} {l : List (Int × Int)} (h : RP w (.slice A n c) l) (hi : i ≤ l.length) : RP w (.slice A i c) (l.take i) := by
  obtain ⟨A', c', e, h1, h2, h3⟩ := h
  cases e
  have hl : (l.take i).length = i := by rw [List.length_take]; omega
  refine ⟨A, c, by rw [hl], by rw [hl]; omega, prs_len _, fun j u hu => h3 j u ?_⟩
  have hs : prs l = prs (l.take i) ++ prs (l.drop i) := by rw [prs, prs, prs, ← List.flatMap_append, List.take_append_drop]
  rw [hs, List.getElem?_append_left (by exact (List.getElem?_eq_some_iff.1 hu).1)]
  exact hu

set_option maxRecDepth 100000 in
set_option maxHeartbeats 25600000 in
theorem law_Hangs (vX vY vV : Value) (X Y : List Int) (V : List (List Int)) (cable charge lo hi : Int) (vl : Value) (l : List (Int × Int)) (w : World) (hR : RT w vX vY vV X Y V) (hl : RP w vl l) (hln : l.length ≤ 1000000000000000000) :
    Calls Try.prog 8 #[.agg #[.int .i64 cable, vX, vY, vV, .int .i64 charge], .agg #[.int .i64 lo, .int .i64 hi], vl] w (AllBelow (.bool true) w) := by
  have B2 := hoW_below cable vX vY vV charge lo hi w
  have z2 : (hoW cable vX vY vV charge lo hi w).heap.size ≤ w.heap.size + 1 + 1 := by simp
  have z3 : w.heap.size + 1 + 1 ≤ (hoW cable vX vY vV charge lo hi w).heap.size := by simp
  have HWi := fun (W : World) (hb : Below w.heap.size w W) => ref_CheckWinds cable charge lo hi vX vY vV X Y V W (hR.below hb)
  have HC := fun (W : World) (hb : Below w.heap.size w W) => sling_Haul vX vY vV X Y V cable charge lo hi vl l W (hR.below hb) (hl.below hb) hln
  have HW := fun W => law_works W
  obtain ⟨Al, cl, rfl, hcl⟩ := hl.form
  have bx := fun (W : World) (hb : Below (w.heap.size + 1 + 1) (hoW cable vX vY vV charge lo hi w) W) => box52 hb
  have hE := fun {W : World} (hb : Below (w.heap.size + 1 + 1) (hoW cable vX vY vV charge lo hi w) W) => B2.trans (hb.mono (by omega))
  have T0 := Below.refl (w.heap.size + 1 + 1) (hoW cable vX vY vV charge lo hi w)
  obtain ⟨⟨q0, q1, q2, q3, q4⟩, ⟨q5, q6⟩, q7⟩ := bx _ T0
  have u0 : w.heap.size < (hoW cable vX vY vV charge lo hi w).heap.size := by omega
  have u1 : w.heap.size + 1 < (hoW cable vX vY vV charge lo hi w).heap.size := by omega
  by_cases h30 : 30 < l.length
  · have i1 : (30 : Int) < (l.length : Int) := by omega
    go_enter Try.func8, Try.ntmps8
    go_wp2_with (go_at_call 13; (with_reducible refine (HW _).mono ?_); rintro e w5 ⟨rfl, hb5⟩; have E5 := B2.trans (hb5.mono B2.size))
    go_ret
    exact ⟨rfl, E5⟩
  have i1 : ¬ (30 : Int) < (l.length : Int) := by omega
  by_cases hwz : windsE cable X Y V charge lo hi = 0
  · rw [hwz] at HWi
    by_cases herr : (haulR cable X Y V charge lo hi l).2.2 = 0
    · have HF := Lib.hid (hang_all herr)
      obtain ⟨_, _, s0, hs0, _⟩ := haul_zero herr
      rw [hs0] at HC
      have HWZ := Lib.hid hwz
      have HRT := Lib.hid hR
      have HRP := Lib.hid hl
      have i2 : l.length ≤ 30 := by omega
      clear herr hs0 hwz hR hl h30
      go_enter Try.func8, Try.ntmps8
      go_wp2_with (first
        | (go_at_call 21; (with_reducible refine (HWi _ (hE T0)).mono ?_); rintro e w1 ⟨rfl, hb1⟩; have T1 := T0.trans (hb1.mono z3); clear q0 q1 q2 q3 q4 q5 q6 q7 u0 u1; obtain ⟨⟨q0, q1, q2, q3, q4⟩, ⟨q5, q6⟩, q7⟩ := bx _ T1; have u0 : w.heap.size < w1.heap.size := (by omega); have u1 : w.heap.size + 1 < w1.heap.size := (by omega))
        | (go_at_call 25; (with_reducible refine (HC _ (hE T1)).mono ?_); rintro e w2 ⟨rfl, hb2⟩; have T2 := T1.trans (hb2.mono (by have := T1.size; omega)); have T3 := T2.alloc (by have := T2.size; omega) (.cells #[.int .i64 s0.L, .int .i64 s0.W, .int .i64 s0.S, .int .i64 s0.C, .bool s0.cut] 56)))
      go_loopw [10, 11] (fun s10 s11 wr => ∃ i : Nat, s11 = .int .i64 i ∧ i ≤ l.length + 1 ∧ s10 = .int .i64 (cnt5 (l.take (i - 1))) ∧ Below (w.heap.size + 1 + 1) (hoW cable vX vY vV charge lo hi w) wr) (fun _ s11 _ => l.length + 1 - (intOf s11).toNat)
      case atStart => exact ⟨0, rfl, by omega, rfl, T3⟩
      case round =>
        obtain ⟨i, rfl, hi1, rfl, T5⟩ := hrel
        clear q0 q1 q2 q3 q4 q5 q6 q7 u0 u1
        obtain ⟨⟨q0, q1, q2, q3, q4⟩, ⟨q5, q6⟩, q7⟩ := bx _ T5
        have u0 : w.heap.size < wr.heap.size := by omega
        have u1 : w.heap.size + 1 < wr.heap.size := by omega
        by_cases hlt : i < l.length + 1
        · obtain ⟨s, _, hs2, hH⟩ := HF.out i (by omega)
          have HH := Lib.hid hH
          have hil : (l.take i).length ≤ 1000000000000000000 := by rw [List.length_take]; omega
          have HCi := fun (W : World) (hb : Below w.heap.size w W) => sling_Haul vX vY vV X Y V cable charge lo hi (.slice Al i cl) (l.take i) W (HRT.out.below hb) ((HRP.out.below hb).takeN (by omega)) hil
          rw [hs2] at HCi
          clear hs2 hH hil
          have i3 : (i : Int) ≤ (l.length : Int) := by omega
          have i4 : (0 : Int) ≤ (i : Int) := by omega
          have i5 : i ≤ l.length := by omega
          have i6 : i ≤ cl := by omega
          go_wp2_with fail
          go_cut [12, 13, 14] (fun s12 s13 s14 wx => s13 = .int .i64 0 ∧ s14 = .int .i64 0 ∧ ∃ B, s12 = .pointer (some ⟨B, 0, none⟩) ∧ wx.heap[B]? = some (.cells #[.int .i64 s.L, .int .i64 s.W, .int .i64 s.S, .int .i64 s.C, .bool s.cut] 56 (0, 0)) ∧ Below wr.heap.size wr wx)
          case first =>
            as_aux_lemma =>
            refine wp_region_held_drew (S := fun w' => Below wr.heap.size wr w') (by kernel_rfl) (Below.drew (Below.refl wr.heap.size wr)) (fun hHeld => ?_)
            refine wpAnyH_take (i := 0) (oi := _) (v := ?_) rfl (by kernel_rfl) (by kernel_rfl) (by kernel_rfl) (fun _ _ _ h => h) (Or.inl ⟨by kernel_rfl, ?_⟩) hHeld ?_
            rotate_left
            · (intro w' hSw; ((obtain ⟨⟨q0, q1, q2, q3, q4⟩, ⟨q5, q6⟩, q7⟩ := bx _ (T5.trans (Below.mono hSw (show w.heap.size + 1 + 1 ≤ wr.heap.size by omega))))); go_simp; try (with_reducible rfl))
            simp only [Act.put, List.setIfInBounds_toArray, List.set_cons_zero, List.set_cons_succ]
            refine wpAnyH_take (i := 1) (oi := _) (v := ?_) rfl (by kernel_rfl) (by kernel_rfl) (by kernel_rfl) (fun _ _ _ h => h) (Or.inl ⟨by kernel_rfl, ?_⟩) hHeld ?_
            rotate_left
            · (intro w' hSw; ((obtain ⟨⟨q0, q1, q2, q3, q4⟩, ⟨q5, q6⟩, q7⟩ := bx _ (T5.trans (Below.mono hSw (show w.heap.size + 1 + 1 ≤ wr.heap.size by omega))))); go_simp; try (with_reducible rfl))
            simp only [Act.put, List.setIfInBounds_toArray, List.set_cons_zero, List.set_cons_succ]
            refine wpAnyH_take (i := 2) (oi := _) (v := ?_) rfl (by kernel_rfl) (by kernel_rfl) (by kernel_rfl) (fun _ _ _ h => h) (Or.inl ⟨by kernel_rfl, ?_⟩) hHeld ?_
            rotate_left
            · (intro w' hSw; (skip); go_simp; try (with_reducible rfl))
            simp only [Act.put, List.setIfInBounds_toArray, List.set_cons_zero, List.set_cons_succ]
            refine wpAnyH_take (i := 3) (oi := _) (v := ?_) rfl (by kernel_rfl) (by kernel_rfl) (by kernel_rfl) (fun _ _ _ h => h) (Or.inl ⟨by kernel_rfl, ?_⟩) hHeld ?_
            rotate_left
            · (intro w' hSw; (skip); go_simp; try (with_reducible rfl))
            simp only [Act.put, List.setIfInBounds_toArray, List.set_cons_zero, List.set_cons_succ]
            refine wpAnyH_take (i := 4) (oi := _) (v := ?_) rfl (by kernel_rfl) (by kernel_rfl) (by kernel_rfl) (fun _ _ _ h => h) (Or.inl ⟨by kernel_rfl, ?_⟩) hHeld ?_
            rotate_left
            · (intro w' hSw; (skip); go_simp; try (with_reducible rfl))
            simp only [Act.put, List.setIfInBounds_toArray, List.set_cons_zero, List.set_cons_succ]
            refine wpAnyH_ready (rs := [5, 10]) (by kernel_rfl) (by simp) ?_
            refine AllReadyH.cons (o := _) rfl (fun K hK => ?_) (AllReadyH.cons (o := _) rfl (fun K hK => ?_) AllReadyH.nil)
            · go_simp
              go_at_call 25
              refine (HCi _ ((hE T5).trans (Below.mono (Below.drew (Below.refl wr.heap.size wr)) (hE T5).size))).mono ?_
              rintro e w9 ⟨rfl, hb9⟩
              have E9 : Below wr.heap.size wr w9 := Below.trans (Below.drew (Below.refl wr.heap.size wr)) (Below.mono hb9 (Below.size (Below.drew (Below.refl wr.heap.size wr))))
              go_wp2_with fail
              refine hK.out _ _ ?_ (fun hHeld => ?_)
              · exact E9
              clear hK K
              try simp only [Act.put, List.setIfInBounds_toArray, List.set_cons_zero, List.set_cons_succ]
              refine wpAnyH_take (i := 6) (oi := _) (v := ?_) rfl (by kernel_rfl) (by kernel_rfl) (by kernel_rfl) (fun _ _ _ h => h) (Or.inl ⟨by kernel_rfl, ?_⟩) hHeld ?_
              rotate_left
              · (intro w' hSw; (skip); go_simp; try (with_reducible rfl))
              simp only [Act.put, List.setIfInBounds_toArray, List.set_cons_zero, List.set_cons_succ]
              refine wpAnyH_take (i := 7) (oi := _) (v := ?_) rfl (by kernel_rfl) (by kernel_rfl) (by kernel_rfl) (fun _ _ _ h => h) (Or.inl ⟨by kernel_rfl, ?_⟩) hHeld ?_
              rotate_left
              · (intro w' hSw; (skip); go_simp; try (with_reducible rfl))
              simp only [Act.put, List.setIfInBounds_toArray, List.set_cons_zero, List.set_cons_succ]
              refine wpAnyH_take (i := 8) (oi := _) (v := ?_) rfl (by kernel_rfl) (by kernel_rfl) (by kernel_rfl) (fun _ _ _ h => h) (Or.inl ⟨by kernel_rfl, ?_⟩) hHeld ?_
              rotate_left
              · (intro w' hSw; (skip); go_simp; try (with_reducible rfl))
              simp only [Act.put, List.setIfInBounds_toArray, List.set_cons_zero, List.set_cons_succ]
              refine wpAnyH_take (i := 9) (oi := _) (v := ?_) rfl (by kernel_rfl) (by kernel_rfl) (by kernel_rfl) (fun _ _ _ h => h) (Or.inl ⟨by kernel_rfl, ?_⟩) hHeld ?_
              rotate_left
              · (intro w' hSw; (skip); go_simp; try (with_reducible rfl))
              simp only [Act.put, List.setIfInBounds_toArray, List.set_cons_zero, List.set_cons_succ]
              refine wpAnyH_ready (rs := [10]) (by kernel_rfl) (by simp) ?_
              refine AllReadyH.cons (o := _) rfl (fun K hK => ?_) AllReadyH.nil
              go_simp
              refine hK.out _ _ ?_ (fun hHeld => ?_)
              · exact Below.alloc E9 (Below.size E9) _
              clear hK K
              try simp only [Act.put, List.setIfInBounds_toArray, List.set_cons_zero, List.set_cons_succ]
              refine wpAnyH_ready (rs := [11]) (by kernel_rfl) (by simp) ?_
              refine AllReadyH.cons (o := _) rfl (fun K hK => ?_) AllReadyH.nil
              go_simp
              have EF : Below wr.heap.size wr (w9.alloc (.cells #[.int .i64 s.L, .int .i64 s.W, .int .i64 s.S, .int .i64 s.C, .bool s.cut] 56)) := Below.alloc E9 (Below.size E9) _
              refine hK.out _ _ ?_ (fun hHeld => ?_)
              · exact EF
              clear hK K
              try simp only [Act.put, List.setIfInBounds_toArray, List.set_cons_zero, List.set_cons_succ]
              refine wpAnyH_ready (rs := [12]) (by kernel_rfl) (by simp) ?_
              refine AllReadyH.cons (o := _) rfl (fun K hK => ?_) AllReadyH.nil
              go_simp
              refine hK.out _ _ ?_ (fun hHeld => ?_)
              · exact EF
              clear hK K
              try simp only [Act.put, List.setIfInBounds_toArray, List.set_cons_zero, List.set_cons_succ]
              refine wpAnyH_ready (rs := [13]) (by kernel_rfl) (by simp) ?_
              refine AllReadyH.cons (o := _) rfl (fun K hK => ?_) AllReadyH.nil
              go_simp
              refine hK.out _ _ ?_ (fun hHeld => ?_)
              · exact EF
              clear hK K
              try simp only [Act.put, List.setIfInBounds_toArray, List.set_cons_zero, List.set_cons_succ]
              refine wpAnyH_done (by kernel_rfl) ?_ _
              go_wp2_with fail
              go_meet
              case rel => exact ⟨rfl, rfl, _, rfl, heap_alloc_new w9 _, EF⟩
            · go_simp
              have Ea : Below wr.heap.size wr (wr.drew.alloc (.cells #[.int .i64 0, .int .i64 0, .int .i64 0, .int .i64 0, .bool false] 56)) := Below.alloc (Below.drew (Below.refl wr.heap.size wr)) (Nat.le_refl _) _
              refine hK.out _ _ ?_ (fun hHeld => ?_)
              · exact Ea
              clear hK K
              try simp only [Act.put, List.setIfInBounds_toArray, List.set_cons_zero, List.set_cons_succ]
              refine wpAnyH_ready (rs := [5]) (by kernel_rfl) (by simp) ?_
              refine AllReadyH.cons (o := _) rfl (fun K hK => ?_) AllReadyH.nil
              go_simp
              go_at_call 25
              refine (HCi _ ((hE T5).trans (Below.mono (Ea) (hE T5).size))).mono ?_
              rintro e w9 ⟨rfl, hb9⟩
              have E9 : Below wr.heap.size wr w9 := Below.trans (Ea) (Below.mono hb9 (Below.size (Ea)))
              go_wp2_with fail
              refine hK.out _ _ ?_ (fun hHeld => ?_)
              · exact E9
              clear hK K
              try simp only [Act.put, List.setIfInBounds_toArray, List.set_cons_zero, List.set_cons_succ]
              refine wpAnyH_take (i := 6) (oi := _) (v := ?_) rfl (by kernel_rfl) (by kernel_rfl) (by kernel_rfl) (fun _ _ _ h => h) (Or.inl ⟨by kernel_rfl, ?_⟩) hHeld ?_
              rotate_left
              · (intro w' hSw; (skip); go_simp; try (with_reducible rfl))
              simp only [Act.put, List.setIfInBounds_toArray, List.set_cons_zero, List.set_cons_succ]
              refine wpAnyH_take (i := 7) (oi := _) (v := ?_) rfl (by kernel_rfl) (by kernel_rfl) (by kernel_rfl) (fun _ _ _ h => h) (Or.inl ⟨by kernel_rfl, ?_⟩) hHeld ?_
              rotate_left
              · (intro w' hSw; (skip); go_simp; try (with_reducible rfl))
              simp only [Act.put, List.setIfInBounds_toArray, List.set_cons_zero, List.set_cons_succ]
              refine wpAnyH_take (i := 8) (oi := _) (v := ?_) rfl (by kernel_rfl) (by kernel_rfl) (by kernel_rfl) (fun _ _ _ h => h) (Or.inl ⟨by kernel_rfl, ?_⟩) hHeld ?_
              rotate_left
              · (intro w' hSw; (skip); go_simp; try (with_reducible rfl))
              simp only [Act.put, List.setIfInBounds_toArray, List.set_cons_zero, List.set_cons_succ]
              refine wpAnyH_take (i := 9) (oi := _) (v := ?_) rfl (by kernel_rfl) (by kernel_rfl) (by kernel_rfl) (fun _ _ _ h => h) (Or.inl ⟨by kernel_rfl, ?_⟩) hHeld ?_
              rotate_left
              · (intro w' hSw; (skip); go_simp; try (with_reducible rfl))
              simp only [Act.put, List.setIfInBounds_toArray, List.set_cons_zero, List.set_cons_succ]
              have hZ := (hb9.block wr.heap.size (by simp)).trans (heap_alloc_new wr.drew (.cells #[.int .i64 0, .int .i64 0, .int .i64 0, .int .i64 0, .bool false] 56))
              have EF := setV_below E9 (Nat.le_refl _) s.L s.W s.S s.C s.cut
              refine wpAnyH_ready (rs := [11]) (by kernel_rfl) (by simp) ?_
              refine AllReadyH.cons (o := _) rfl (fun K hK => ?_) AllReadyH.nil
              refine store56 _ wr.heap.size s.L s.W s.S s.C 0 0 0 0 s.cut false hZ _ _ ⟨_, _, rfl, rfl, rfl⟩ rfl rfl ?_
              refine hK.out _ _ ?_ (fun hHeld => ?_)
              · exact EF
              clear hK K
              try simp only [Act.put, List.setIfInBounds_toArray, List.set_cons_zero, List.set_cons_succ]
              refine wpAnyH_ready (rs := [12]) (by kernel_rfl) (by simp) ?_
              refine AllReadyH.cons (o := _) rfl (fun K hK => ?_) AllReadyH.nil
              go_simp
              refine hK.out _ _ ?_ (fun hHeld => ?_)
              · exact EF
              clear hK K
              try simp only [Act.put, List.setIfInBounds_toArray, List.set_cons_zero, List.set_cons_succ]
              refine wpAnyH_ready (rs := [13]) (by kernel_rfl) (by simp) ?_
              refine AllReadyH.cons (o := _) rfl (fun K hK => ?_) AllReadyH.nil
              go_simp
              refine hK.out _ _ ?_ (fun hHeld => ?_)
              · exact EF
              clear hK K
              try simp only [Act.put, List.setIfInBounds_toArray, List.set_cons_zero, List.set_cons_succ]
              refine wpAnyH_done (by kernel_rfl) ?_ _
              go_wp2_with fail
              go_meet
              case rel => exact ⟨rfl, rfl, _, rfl, setV_at hZ, EF⟩
          case rest =>
            obtain ⟨rfl, rfl, B, rfl, hB, F6⟩ := hcut
            have T6 := T5.trans (F6.mono (by omega))
            clear q0 q1 q2 q3 q4 q5 q6 q7 u0 u1
            obtain ⟨⟨q0, q1, q2, q3, q4⟩, ⟨q5, q6⟩, q7⟩ := bx _ T6
            have u0 : w.heap.size < wc.heap.size := by omega
            have u1 : w.heap.size + 1 < wc.heap.size := by omega
            obtain ⟨⟨m0, m1, m2, m3, m4⟩, _⟩ := hang_cells hB
            have um := blk_lt hB
            have HBk := Lib.hid hB
            have HCar := Lib.hid (fun hW => hang_car HWZ.out HH.out hW)
            have a0 := HH.out.vd.l0
            have a1 := HH.out.vd.l1
            have a2 := HH.out.vd.w0
            have cy := HH.out.cyc
            have ccs := cnt_cases (l := l) (i := i) (by omega)
            have cbd := cnt5_le (l.take (i - 1))
            rw [List.length_take] at cbd
            obtain ⟨c, hc⟩ : ∃ z, z = cnt5 (l.take (i - 1)) := ⟨_, rfl⟩
            obtain ⟨c', hc'⟩ : ∃ z, z = cnt5 (l.take i) := ⟨_, rfl⟩
            rw [← hc, ← hc'] at ccs
            rw [← hc'] at cy
            rw [← hc] at cbd ⊢
            have HNX := Lib.hid hc'
            obtain ⟨sL, sW, sS, sC, scut, st⟩ := s
            dsimp only at m0 m1 m2 m3 m4 HCar a0 a1 a2 cy
            subst cy
            have cb0 : 0 ≤ c := by omega
            have cb1 : c ≤ 30 := by omega
            clear hB hc hc' cbd HCi
            have d1 : ¬ sL < 0 := by omega
            have d2 : ¬ cable < sL := by omega
            have d3 : ¬ sW < 0 := by omega
            rcases ccs with ⟨k0, rfl⟩ | ⟨k0, x, y, hx, hcc⟩
            · have j0 : ¬ (0 : Int) < (i : Int) := by omega
              have j5 : ¬ 0 < i := by omega
              clear k0
              by_cases hW : 0 < sW
              · obtain ⟨w1, w2', w3⟩ := HCar.out hW
                have HA := fun (W : World) (hb : Below w.heap.size w W) => w1 ▸ sling_Carries vX vY vV X Y V cable charge lo hi sL sW W (HRT.out.below hb)
                have HBd := fun (W : World) (hb : Below w.heap.size w W) => w2' ▸ spans_Bound vX vY vV X Y V sL sL lo hi W (HRT.out.below hb)
                generalize lowB X Y V sL sL lo hi = lb at *
                generalize highB X Y V sL sL lo hi = hb' at *
                have d4 : ¬ lb < sW := by omega
                clear w1 w2' w3
                go_wp2_with (first
                  | (go_at_call 17; (with_reducible refine (HA _ (hE T6)).mono ?_); rintro e w7 ⟨rfl, hb7⟩; have T7 := T6.trans (hb7.mono (by have := T6.size; omega)); clear q0 q1 q2 q3 q4 q5 q6 q7 u0 u1 m0 m1 m2 m3 m4 um; obtain ⟨⟨q0, q1, q2, q3, q4⟩, ⟨q5, q6⟩, q7⟩ := bx _ T7; have u0 : w.heap.size < w7.heap.size := (by omega); have u1 : w.heap.size + 1 < w7.heap.size := (by omega); obtain ⟨⟨m0, m1, m2, m3, m4⟩, _⟩ := hang_cells (hb7.block B (blk_lt HBk.out) |>.trans HBk.out); have um := lt_of_cell m0)
                  | (go_at_call 28; (with_reducible refine (HBd _ (hE T7)).mono ?_); rintro e w8 ⟨rfl, hb8⟩; have T8 := T7.trans (hb8.mono (by have := T7.size; omega)); have F8 := hb7.trans (hb8.mono hb7.size); clear q0 q1 q2 q3 q4 q5 q6 q7 u0 u1 m0 m1 m2 m3 m4 um; obtain ⟨⟨q0, q1, q2, q3, q4⟩, ⟨q5, q6⟩, q7⟩ := bx _ T8; have u0 : w.heap.size < w8.heap.size := (by omega); have u1 : w.heap.size + 1 < w8.heap.size := (by omega); obtain ⟨⟨m0, m1, m2, m3, m4⟩, _⟩ := hang_cells (F8.block B (blk_lt HBk.out) |>.trans HBk.out); have um := lt_of_cell m0))
                go_roundw
                case rel => exact ⟨i + 1, by go_num, by omega, by rw [show i + 1 - 1 = i by omega, ← HNX.out], T8.alloc (by have := T8.size; omega) _⟩
                case measure => simp [intOf]; omega
              · go_wp2_with fail
                go_roundw
                case rel => exact ⟨i + 1, by go_num, by omega, by rw [show i + 1 - 1 = i by omega, ← HNX.out], T6⟩
                case measure => simp [intOf]; omega
            · obtain ⟨bb, o, cc, x', y', e, hbb, hx', r0, r1⟩ := (HRP.out.below (hE T6)).at (k := i - 1) (by omega)
              rw [hx] at hx'
              cases hx'
              cases e
              have j0 : (0 : Int) < (i : Int) := by omega
              have j1 : IntKind.i64.wrap ((i : Int) - 1) = (i : Int) - 1 := IntWalk.i64_in _ (by omega)
              have j2 : (0 : Int) ≤ (i : Int) - 1 := by omega
              have j3 : (i : Int) - 1 < (l.length : Int) := by omega
              have j4 : ((i : Int) - 1).toNat = i - 1 := by omega
              have j5 : 0 < i := k0
              clear hx k0
              rcases hcc with ⟨rfl, rfl⟩ | ⟨hx5, rfl⟩
              · by_cases hW : 0 < sW
                · obtain ⟨w1, w2', w3⟩ := HCar.out hW
                  have HA := fun (W : World) (hb : Below w.heap.size w W) => w1 ▸ sling_Carries vX vY vV X Y V cable charge lo hi sL sW W (HRT.out.below hb)
                  have HBd := fun (W : World) (hb : Below w.heap.size w W) => w2' ▸ spans_Bound vX vY vV X Y V sL sL lo hi W (HRT.out.below hb)
                  generalize lowB X Y V sL sL lo hi = lb at *
                  generalize highB X Y V sL sL lo hi = hb' at *
                  have d4 : ¬ lb < sW := by omega
                  clear w1 w2' w3
                  go_wp2_with (first
                    | (go_at_call 17; (with_reducible refine (HA _ (hE T6)).mono ?_); rintro e w7 ⟨rfl, hb7⟩; have T7 := T6.trans (hb7.mono (by have := T6.size; omega)); clear q0 q1 q2 q3 q4 q5 q6 q7 u0 u1 m0 m1 m2 m3 m4 um; obtain ⟨⟨q0, q1, q2, q3, q4⟩, ⟨q5, q6⟩, q7⟩ := bx _ T7; have u0 : w.heap.size < w7.heap.size := (by omega); have u1 : w.heap.size + 1 < w7.heap.size := (by omega); obtain ⟨⟨m0, m1, m2, m3, m4⟩, _⟩ := hang_cells (hb7.block B (blk_lt HBk.out) |>.trans HBk.out); have um := lt_of_cell m0)
                    | (go_at_call 28; (with_reducible refine (HBd _ (hE T7)).mono ?_); rintro e w8 ⟨rfl, hb8⟩; have T8 := T7.trans (hb8.mono (by have := T7.size; omega)); have F8 := hb7.trans (hb8.mono hb7.size); clear q0 q1 q2 q3 q4 q5 q6 q7 u0 u1 m0 m1 m2 m3 m4 um; obtain ⟨⟨q0, q1, q2, q3, q4⟩, ⟨q5, q6⟩, q7⟩ := bx _ T8; have u0 : w.heap.size < w8.heap.size := (by omega); have u1 : w.heap.size + 1 < w8.heap.size := (by omega); obtain ⟨⟨m0, m1, m2, m3, m4⟩, _⟩ := hang_cells (F8.block B (blk_lt HBk.out) |>.trans HBk.out); have um := lt_of_cell m0))
                  go_roundw
                  case rel => exact ⟨i + 1, by go_num, by omega, by rw [show i + 1 - 1 = i by omega, ← HNX.out], T8.alloc (by have := T8.size; omega) _⟩
                  case measure => simp [intOf]; omega
                · go_wp2_with fail
                  go_roundw
                  case rel => exact ⟨i + 1, by go_num, by omega, by rw [show i + 1 - 1 = i by omega, ← HNX.out], T6⟩
                  case measure => simp [intOf]; omega
              · have e5 : (x == 5) = false := by simpa using hx5
                clear hx5
                by_cases hW : 0 < sW
                · obtain ⟨w1, w2', w3⟩ := HCar.out hW
                  have HA := fun (W : World) (hb : Below w.heap.size w W) => w1 ▸ sling_Carries vX vY vV X Y V cable charge lo hi sL sW W (HRT.out.below hb)
                  have HBd := fun (W : World) (hb : Below w.heap.size w W) => w2' ▸ spans_Bound vX vY vV X Y V sL sL lo hi W (HRT.out.below hb)
                  generalize lowB X Y V sL sL lo hi = lb at *
                  generalize highB X Y V sL sL lo hi = hb' at *
                  have d4 : ¬ lb < sW := by omega
                  clear w1 w2' w3
                  go_wp2_with (first
                    | (go_at_call 17; (with_reducible refine (HA _ (hE T6)).mono ?_); rintro e w7 ⟨rfl, hb7⟩; have T7 := T6.trans (hb7.mono (by have := T6.size; omega)); clear q0 q1 q2 q3 q4 q5 q6 q7 u0 u1 m0 m1 m2 m3 m4 um; obtain ⟨⟨q0, q1, q2, q3, q4⟩, ⟨q5, q6⟩, q7⟩ := bx _ T7; have u0 : w.heap.size < w7.heap.size := (by omega); have u1 : w.heap.size + 1 < w7.heap.size := (by omega); obtain ⟨⟨m0, m1, m2, m3, m4⟩, _⟩ := hang_cells (hb7.block B (blk_lt HBk.out) |>.trans HBk.out); have um := lt_of_cell m0)
                    | (go_at_call 28; (with_reducible refine (HBd _ (hE T7)).mono ?_); rintro e w8 ⟨rfl, hb8⟩; have T8 := T7.trans (hb8.mono (by have := T7.size; omega)); have F8 := hb7.trans (hb8.mono hb7.size); clear q0 q1 q2 q3 q4 q5 q6 q7 u0 u1 m0 m1 m2 m3 m4 um; obtain ⟨⟨q0, q1, q2, q3, q4⟩, ⟨q5, q6⟩, q7⟩ := bx _ T8; have u0 : w.heap.size < w8.heap.size := (by omega); have u1 : w.heap.size + 1 < w8.heap.size := (by omega); obtain ⟨⟨m0, m1, m2, m3, m4⟩, _⟩ := hang_cells (F8.block B (blk_lt HBk.out) |>.trans HBk.out); have um := lt_of_cell m0))
                  go_roundw
                  case rel => exact ⟨i + 1, by go_num, by omega, by rw [show i + 1 - 1 = i by omega, ← HNX.out], T8.alloc (by have := T8.size; omega) _⟩
                  case measure => simp [intOf]; omega
                · go_wp2_with fail
                  go_roundw
                  case rel => exact ⟨i + 1, by go_num, by omega, by rw [show i + 1 - 1 = i by omega, ← HNX.out], T6⟩
                  case measure => simp [intOf]; omega
        · obtain rfl : i = l.length + 1 := by omega
          go_wp2_with (go_at_call 13; (with_reducible refine (HW _).mono ?_); rintro e w5 ⟨rfl, hb5⟩; have E5 := (hE T5).trans (hb5.mono (hE T5).size))
          go_ret
          exact ⟨rfl, E5⟩
    · have h1 : ((haulR cable X Y V charge lo hi l).2.2 != 0) = true := by simpa using herr
      generalize haulR cable X Y V charge lo hi l = h at *
      obtain ⟨⟨L, W0, S, C, cut, t⟩, n, err⟩ := h
      dsimp only at h1
      clear herr
      go_enter Try.func8, Try.ntmps8
      go_wp2_with (first
        | (go_at_call 21; (with_reducible refine (HWi _ (hE T0)).mono ?_); rintro e w1 ⟨rfl, hb1⟩; have T1 := T0.trans (hb1.mono z3); clear q0 q1 q2 q3 q4 q5 q6 q7 u0 u1; obtain ⟨⟨q0, q1, q2, q3, q4⟩, ⟨q5, q6⟩, q7⟩ := bx _ T1; have u0 : w.heap.size < w1.heap.size := (by omega); have u1 : w.heap.size + 1 < w1.heap.size := (by omega))
        | (go_at_call 25; (with_reducible refine (HC _ (hE T1)).mono ?_); rintro e w2 ⟨rfl, hb2⟩; have T2 := T1.trans (hb2.mono (by have := T1.size; omega)); have T3 := T2.alloc (by have := T2.size; omega) (.cells #[.int .i64 L, .int .i64 W0, .int .i64 S, .int .i64 C, .bool cut] 56))
        | (go_at_call 13; (with_reducible refine (HW _).mono ?_); rintro e w5 ⟨rfl, hb5⟩; have E5 := (hE T3).trans (hb5.mono (hE T3).size)))
      go_ret
      exact ⟨rfl, E5⟩
  · have e1 : (windsE cable X Y V charge lo hi != 0) = true := by simpa using hwz
    clear hwz
    go_enter Try.func8, Try.ntmps8
    go_wp2_with (first
      | (go_at_call 21; (with_reducible refine (HWi _ (hE T0)).mono ?_); rintro e w1 ⟨rfl, hb1⟩; have T1 := T0.trans (hb1.mono z3))
      | (go_at_call 13; (with_reducible refine (HW _).mono ?_); rintro e w5 ⟨rfl, hb5⟩; have E5 := (hE T1).trans (hb5.mono (hE T1).size)))
    go_ret
    exact ⟨rfl, E5⟩

end Go.Proofs.Ytliddinpfgpnfaa
