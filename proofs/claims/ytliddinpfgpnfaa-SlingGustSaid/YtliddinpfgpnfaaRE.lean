/- Contract of the specification's weights. -/
import Derived.Test.YtliddinpfgpnfaaRD
import Derived.Deep.RegionHeld
import Derived.OwnWalk
namespace Go.Proofs.Ytliddinpfgpnfaa
open Go Go.RowKit Go.Sort
set_option linter.unusedSimpArgs false
set_option linter.unusedVariables false

theorem unit_zero (n : Nat) : unitG n 0 = List.replicate n 0 ∧ unitG n 1 = List.replicate n 0 := by
  constructor
  · apply List.ext_getElem?
    intro i
    by_cases h : i < n
    · rw [unitG_at h]; simp [h, u1]
    · simp [unitG, h]
  · apply List.ext_getElem?
    intro i
    by_cases h : i < n
    · rw [unitG_at h]; simp [h, u1]
    · simp [unitG, h]

theorem unit_set (n t : Nat) : (List.replicate n (0 : Int)).set t 1 = unitG n (t + 2) := by
  apply List.ext_getElem?
  intro i
  by_cases h : i < n
  · rw [unitG_at h, List.getElem?_set]
    by_cases e : t = i
    · subst e; simp [h, u1]
    · rw [if_neg e, u1, if_neg (by omega)]; simp [h]
  · rw [List.getElem?_eq_none (by simp; omega), List.getElem?_eq_none (by rw [unitG_len]; omega)]

theorem swL_last {num damp D a v : Int} {gs : List Int} {n : Nat} (h : gs.length = n) : (swL num damp D a v gs)[n]? = some (runs num damp D (a, v, 1) gs).1 := by
  subst h
  rw [swL_at (by omega), List.take_of_length_le (Nat.le_refl _)]

theorem RI.made {w' : World} {base g n : Nat} (ho : w'.ownsRow base 3 1 (.slice (some ⟨g, 0, none⟩) n n) n (madeCells (Value.int .i64 0).cells (n * 1)).toList) : RI w' (.slice (some ⟨g, 0, none⟩) n n) (List.replicate n 0) := by
  have h := RS.of_own ho
  rw [show (Value.int .i64 0).cells = #[.int .i64 0] from rfl, toList_madeCells_one, Nat.mul_one] at h
  simpa [RI] using h

theorem RI.setAt {w : World} {g n t : Nat} {zs : List Int} {base : Nat} (ho : w.ownsRow base 3 1 (.slice (some ⟨g, 0, none⟩) n n) n (ints zs)) (hl : zs.length = n) (ht : t < n) (x : Int) :
    RI (w.setCell ⟨g, t, none⟩ (.int .i64 x)) (.slice (some ⟨g, 0, none⟩) n n) (zs.set t x) := by
  subst hl
  refine ⟨some ⟨g, 0, none⟩, zs.length, by rw [List.length_set], by rw [List.length_set]; exact Nat.le_refl _, by simp, fun j u hu => ⟨g, 0, rfl, ?_⟩⟩
  rcases ho.2 with ⟨e, _⟩ | ⟨g', cap, cur, e, _, hh, _, _, hs, ht2⟩
  · cases e
  · cases e
    have hh2 := heap_setCell_at (j := t) hh (.int .i64 x)
    rw [Nat.zero_add, (blk_cells hh2 j).1]
    have hj : j < zs.length := by have := (List.getElem?_eq_some_iff.1 hu).1; simpa using this
    have hcur : cur.size = zs.length := by simpa using hs
    have hcj : cur[j]? = some (.int .i64 zs[j]) := by
      have h3 : (cur.toList.take (zs.length * 1))[j]? = some (.int .i64 zs[j]) := by rw [ht2]; simp [ints, hj]
      rw [List.getElem?_take, if_pos (by omega)] at h3
      simpa using h3
    rw [List.getElem?_map, List.getElem?_set] at hu
    by_cases e : t = j
    · subst e
      simp [hj] at hu
      subst hu
      rw [Array.getElem?_setIfInBounds_self_of_lt (by omega)]
    · rw [if_neg e] at hu
      simp [hj] at hu
      subst hu
      rw [Array.getElem?_setIfInBounds_ne e]
      exact hcj

theorem own_cell {w : World} {base g n t : Nat} {xs : List Value} (ho : w.ownsRow base 3 1 (.slice (some ⟨g, 0, none⟩) n n) n xs) (ht : t < n) : base ≤ g ∧ (∃ u, w.cell? ⟨g, t, none⟩ = some u) ∧ w.frozen? ⟨g, t, none⟩ = false ∧ g < w.heap.size := by
  rcases ho.2 with ⟨e, _⟩ | ⟨g', cap, cur, e, hb, hh, h1, _, hs, _⟩
  · cases e
  · cases e
    refine ⟨hb, ⟨cur[t]'(by rw [hs]; omega), ?_⟩, (blk_cells hh t).2, hp_lt hh⟩
    rw [(blk_cells hh t).1]
    exact Array.getElem?_eq_getElem _

theorem none_below {w w' : World} (hg : w.grownBy w' none) : Below w.heap.size w w' := ⟨hg.os, hg.tape, hg.output, hg.size, fun k hk => hg.block k hk (by simp)⟩

theorem coll_lit2 {W w : World} {B : Nat} (x y : Int) (hb : Below W.heap.size W w) (h0 : W.heap.size ≤ B) (h1 : B ≤ w.heap.size) : Coll W B [x, y] (.slice (some ⟨w.heap.size, 0, none⟩) 2 2) (w.alloc (.cells #[.int .i64 x, .int .i64 y] 3)) :=
  ⟨hb.alloc hb.size _, h0, by simp; omega, by
    have := World.ownsRow_lit (base := B) (e := 3) (size := 1) w #[.int .i64 x, .int .i64 y] 2 h1 (by decide) rfl
    simpa [ints] using this⟩

set_option maxRecDepth 100000 in
set_option maxHeartbeats 12800000 in
theorem ref_weights (num damp D : Int) (n : Nat) (w : World) (hok : ok3 num damp D) (hn : n ≤ 16) :
    Calls Try.prog 107 #[.agg #[.int .i64 num, .int .i64 damp, .int .i64 D], .int .i64 n] w (SwungPost (partsL num damp D n) w) := by
  obtain ⟨i0, hi0, hz0, hz1, hz2⟩ := info_parts info3
  have E0 : Below w.heap.size w (w.alloc (.cells #[.int .i64 num, .int .i64 damp, .int .i64 D] 23)) := (Below.refl _ _).alloc (Nat.le_refl _) _
  have hbox : (w.alloc (.cells #[.int .i64 num, .int .i64 damp, .int .i64 D] 23)).heap[w.heap.size]? = some (.cells #[.int .i64 num, .int .i64 damp, .int .i64 D] 23 (0, 0)) := heap_alloc_new w _
  have hz : (w.alloc (.cells #[.int .i64 num, .int .i64 damp, .int .i64 D] 23)).heap.size = w.heap.size + 1 := by simp
  have HZ := Lib.hid hz
  have HBOX := Lib.hid hbox
  clear hbox hz
  have i2 : (0 : Int) ≤ (n : Int) := by omega
  have i6 : (n : Int) < (n : Int) + 1 := by omega
  go_enter Try.func107, Try.ntmps107
  go_wp2_with ((with_reducible refine wpList_make_full _ rfl _ _ 25 rfl (w.heap.size + 1) 3 i0 (.int .i64 0) 1 Try.underlying25 hi0 hz0 hz1 .i64 .i64 n n n rfl rfl rfl rfl (by rw [hz2]; omega) (by unfold maxLen; omega) (by simp) ?_); intro wm hom hgm)
  have HOM := Lib.hid hom
  have EM := none_below hgm
  have zM := EM.size
  have HBM := Lib.hid ((EM.block w.heap.size (by simp)).trans HBOX.out)
  have hRm := RI.made hom
  rw [HZ.out] at hRm zM
  have S0 := unit_ok hok (n := n) (i := 0) hn
  have S1 := unit_ok hok (n := n) (i := 1) hn
  have HS0 := Lib.hid (fun (W : World) (hW : Below wm.heap.size wm W) => ref_swung num damp D 1 0 _ (unitG n 0) W (by rw [(unit_zero n).1]; exact hRm.below hW) S0)
  have HS1 := Lib.hid (fun (W : World) (hW : Below wm.heap.size wm W) => ref_swung num damp D 0 1 _ (unitG n 1) W (by rw [(unit_zero n).2]; exact hRm.below hW) S1)
  obtain ⟨P0, hP0⟩ : ∃ z, z = (runs num damp D (1, 0, 1) (unitG n 0)).1 := ⟨_, rfl⟩
  obtain ⟨P1, hP1⟩ : ∃ z, z = (runs num damp D (0, 1, 1) (unitG n 1)).1 := ⟨_, rfl⟩
  have HL := Lib.hid (show (partsL num damp D n).take (0 + 2) = [P0, P1] by
    rw [take_next (partsL_at (show 0 + 1 < n + 2 by omega)), take_next (partsL_at (show 0 < n + 2 by omega)), hP0, hP1]; rfl)
  have HA0 := Lib.hid (show (swL num damp D 1 0 (unitG n 0))[n]? = some P0 by rw [hP0]; exact swL_last (unitG_len n 0))
  have HA1 := Lib.hid (show (swL num damp D 0 1 (unitG n 1))[n]? = some P1 by rw [hP1]; exact swL_last (unitG_len n 1))
  have zW1 : (w.alloc (.cells #[.int .i64 num, .int .i64 damp, .int .i64 D] 23)).heap.size ≤ w.heap.size + 1 := by rw [HZ.out]; exact Nat.le_refl _
  clear hom hgm S0 S1 hP0 hP1
  go_cut [6] (fun s6 wx => Coll (w.alloc (.cells #[.int .i64 num, .int .i64 damp, .int .i64 D] 23)) (w.heap.size + 1) [P0, P1] s6 wx)
  case first =>
    as_aux_lemma =>
    refine wp_region_held_drew (S := fun w' => Below wm.heap.size wm w') (by kernel_rfl) (Below.drew (Below.refl wm.heap.size wm)) (fun hHeld => ?_)
    refine wpAnyH_take (i := 0) (oi := _) (v := ?_) rfl (by kernel_rfl) (by kernel_rfl) (by kernel_rfl) (fun _ _ _ h => h) (Or.inl ⟨by kernel_rfl, ?_⟩) hHeld ?_
    rotate_left
    · (intro w' hSw; ((have hXq := (Below.block hSw w.heap.size (by omega)).trans HBM.out; have hx0 := (blk_cells hXq 0).1; have hx1 := (blk_cells hXq 1).1; have hx2 := (blk_cells hXq 2).1; simp only [Array.getElem?_eq_getElem, List.size_toArray, List.length_cons, List.length_nil, Nat.reduceAdd, Nat.reduceLT, List.getElem_toArray, List.getElem_cons_zero, List.getElem_cons_succ] at hx0 hx1 hx2)); go_simp; try (with_reducible rfl))
    simp only [Act.put, List.setIfInBounds_toArray, List.set_cons_zero, List.set_cons_succ]
    refine wpAnyH_take (i := 1) (oi := _) (v := ?_) rfl (by kernel_rfl) (by kernel_rfl) (by kernel_rfl) (fun _ _ _ h => h) (Or.inl ⟨by kernel_rfl, ?_⟩) hHeld ?_
    rotate_left
    · (intro w' hSw; (skip); go_simp; try (with_reducible rfl))
    simp only [Act.put, List.setIfInBounds_toArray, List.set_cons_zero, List.set_cons_succ]
    refine wpAnyH_take (i := 3) (oi := _) (v := ?_) rfl (by kernel_rfl) (by kernel_rfl) (by kernel_rfl) (fun _ _ _ h => h) (Or.inl ⟨by kernel_rfl, ?_⟩) hHeld ?_
    rotate_left
    · (intro w' hSw; (skip); go_simp; try (with_reducible rfl))
    simp only [Act.put, List.setIfInBounds_toArray, List.set_cons_zero, List.set_cons_succ]
    refine wpAnyH_take (i := 6) (oi := _) (v := ?_) rfl (by kernel_rfl) (by kernel_rfl) (by kernel_rfl) (fun _ _ _ h => h) (Or.inl ⟨by kernel_rfl, ?_⟩) hHeld ?_
    rotate_left
    · (intro w' hSw; ((have hXq := (Below.block hSw w.heap.size (by omega)).trans HBM.out; have hx0 := (blk_cells hXq 0).1; have hx1 := (blk_cells hXq 1).1; have hx2 := (blk_cells hXq 2).1; simp only [Array.getElem?_eq_getElem, List.size_toArray, List.length_cons, List.length_nil, Nat.reduceAdd, Nat.reduceLT, List.getElem_toArray, List.getElem_cons_zero, List.getElem_cons_succ] at hx0 hx1 hx2)); go_simp; try (with_reducible rfl))
    simp only [Act.put, List.setIfInBounds_toArray, List.set_cons_zero, List.set_cons_succ]
    refine wpAnyH_take (i := 7) (oi := _) (v := ?_) rfl (by kernel_rfl) (by kernel_rfl) (by kernel_rfl) (fun _ _ _ h => h) (Or.inl ⟨by kernel_rfl, ?_⟩) hHeld ?_
    rotate_left
    · (intro w' hSw; (skip); go_simp; try (with_reducible rfl))
    simp only [Act.put, List.setIfInBounds_toArray, List.set_cons_zero, List.set_cons_succ]
    refine wpAnyH_take (i := 9) (oi := _) (v := ?_) rfl (by kernel_rfl) (by kernel_rfl) (by kernel_rfl) (fun _ _ _ h => h) (Or.inl ⟨by kernel_rfl, ?_⟩) hHeld ?_
    rotate_left
    · (intro w' hSw; (skip); go_simp; try (with_reducible rfl))
    simp only [Act.put, List.setIfInBounds_toArray, List.set_cons_zero, List.set_cons_succ]
    refine wpAnyH_ready (rs := [2]) (by kernel_rfl) (by simp) ?_
    refine AllReadyH.cons (o := _) rfl (fun K hK => ?_) AllReadyH.nil
    go_simp
    go_at_call 116
    refine (HS0.out _ (Below.drew (Below.refl wm.heap.size wm))).mono ?_
    rintro e w2 ⟨v2, rfl, hb2, hr2⟩
    obtain ⟨b2, o2, c2, rfl, hlt2, hcell2⟩ := hr2.atN (n := n + 1) (by rw [swL_len, unitG_len]) HA0.out
    have E2 : Below wm.heap.size wm w2 := Below.trans (Below.drew (Below.refl wm.heap.size wm)) (Below.mono hb2 (Below.size (Below.drew (Below.refl wm.heap.size wm))))
    obtain ⟨hc2, hf2, hs2⟩ := bcell hb2
    clear hr2
    go_wp2_with fail
    refine hK.out _ _ ?_ (fun hHeld => ?_)
    · exact E2
    clear hK K
    try simp only [Act.put, List.setIfInBounds_toArray, List.set_cons_zero, List.set_cons_succ]
    refine wpAnyH_take (i := 4) (oi := _) (v := ?_) rfl (by kernel_rfl) (by kernel_rfl) (by kernel_rfl) (fun _ _ _ h => h) (Or.inl ⟨by kernel_rfl, ?_⟩) hHeld ?_
    rotate_left
    · (intro w' hSw; (skip); go_simp; try (with_reducible rfl))
    simp only [Act.put, List.setIfInBounds_toArray, List.set_cons_zero, List.set_cons_succ]
    refine wpAnyH_ready (rs := [5, 8]) (by kernel_rfl) (by simp) ?_
    refine AllReadyH.cons (o := _) rfl (fun K hK => ?_) (AllReadyH.cons (o := _) rfl (fun K hK => ?_) AllReadyH.nil)
    · go_simp
      refine hK.out _ _ ?_ (fun hHeld => ?_)
      · exact E2
      clear hK K
      try simp only [Act.put, List.setIfInBounds_toArray, List.set_cons_zero, List.set_cons_succ]
      refine wpAnyH_ready (rs := [8]) (by kernel_rfl) (by simp) ?_
      refine AllReadyH.cons (o := _) rfl (fun K hK => ?_) AllReadyH.nil
      go_simp
      go_at_call 116
      refine (HS1.out _ (E2)).mono ?_
      rintro e w8 ⟨v8, rfl, hb8, hr8⟩
      obtain ⟨b8, o8, c8, rfl, hlt8, hcell8⟩ := hr8.atN (n := n + 1) (by rw [swL_len, unitG_len]) HA1.out
      have E8 : Below wm.heap.size wm w8 := Below.trans (E2) (Below.mono hb8 (Below.size (E2)))
      obtain ⟨hc8, hf8, hs8⟩ := bcell hb8
      clear hr8
      go_wp2_with fail
      refine hK.out _ _ ?_ (fun hHeld => ?_)
      · exact E8
      clear hK K
      try simp only [Act.put, List.setIfInBounds_toArray, List.set_cons_zero, List.set_cons_succ]
      refine wpAnyH_take (i := 10) (oi := _) (v := ?_) rfl (by kernel_rfl) (by kernel_rfl) (by kernel_rfl) (fun _ _ _ h => h) (Or.inl ⟨by kernel_rfl, ?_⟩) hHeld ?_
      rotate_left
      · (intro w' hSw; (skip); go_simp; try (with_reducible rfl))
      simp only [Act.put, List.setIfInBounds_toArray, List.set_cons_zero, List.set_cons_succ]
      refine wpAnyH_ready (rs := [11]) (by kernel_rfl) (by simp) ?_
      refine AllReadyH.cons (o := _) rfl (fun K hK => ?_) AllReadyH.nil
      go_simp
      refine hK.out _ _ ?_ (fun hHeld => ?_)
      · exact E8
      clear hK K
      try simp only [Act.put, List.setIfInBounds_toArray, List.set_cons_zero, List.set_cons_succ]
      refine wpAnyH_ready (rs := [12]) (by kernel_rfl) (by simp) ?_
      refine AllReadyH.cons (o := _) rfl (fun K hK => ?_) AllReadyH.nil
      go_simp
      have EF : Below wm.heap.size wm (World.alloc w8 _) := Below.alloc (E8) (Below.size (E8)) (.cells #[.int .i64 P0, .int .i64 P1] 3)
      refine hK.out _ _ ?_ (fun hHeld => ?_)
      · exact EF
      clear hK K
      try simp only [Act.put, List.setIfInBounds_toArray, List.set_cons_zero, List.set_cons_succ]
      refine wpAnyH_ready (rs := [13]) (by kernel_rfl) (by simp) ?_
      refine AllReadyH.cons (o := _) rfl (fun K hK => ?_) AllReadyH.nil
      go_simp
      refine hK.out _ _ ?_ (fun hHeld => ?_)
      · exact EF
      clear hK K
      try simp only [Act.put, List.setIfInBounds_toArray, List.set_cons_zero, List.set_cons_succ]
      refine wpAnyH_done (by kernel_rfl) ?_ _
      go_wp2_with fail
      go_meet
      case rel => exact coll_lit2 P0 P1 (EM.trans (Below.mono E8 (by omega))) (by omega) (by have := Below.size E8; omega)
    · go_simp
      go_at_call 116
      refine (HS1.out _ (E2)).mono ?_
      rintro e w8 ⟨v8, rfl, hb8, hr8⟩
      obtain ⟨b8, o8, c8, rfl, hlt8, hcell8⟩ := hr8.atN (n := n + 1) (by rw [swL_len, unitG_len]) HA1.out
      have E8 : Below wm.heap.size wm w8 := Below.trans (E2) (Below.mono hb8 (Below.size (E2)))
      obtain ⟨hc8, hf8, hs8⟩ := bcell hb8
      clear hr8
      go_wp2_with fail
      refine hK.out _ _ ?_ (fun hHeld => ?_)
      · exact E8
      clear hK K
      try simp only [Act.put, List.setIfInBounds_toArray, List.set_cons_zero, List.set_cons_succ]
      refine wpAnyH_take (i := 10) (oi := _) (v := ?_) rfl (by kernel_rfl) (by kernel_rfl) (by kernel_rfl) (fun _ _ _ h => h) (Or.inl ⟨by kernel_rfl, ?_⟩) hHeld ?_
      rotate_left
      · (intro w' hSw; (skip); go_simp; try (with_reducible rfl))
      simp only [Act.put, List.setIfInBounds_toArray, List.set_cons_zero, List.set_cons_succ]
      refine wpAnyH_ready (rs := [5, 11]) (by kernel_rfl) (by simp) ?_
      refine AllReadyH.cons (o := _) rfl (fun K hK => ?_) (AllReadyH.cons (o := _) rfl (fun K hK => ?_) AllReadyH.nil)
      · go_simp
        refine hK.out _ _ ?_ (fun hHeld => ?_)
        · exact E8
        clear hK K
        try simp only [Act.put, List.setIfInBounds_toArray, List.set_cons_zero, List.set_cons_succ]
        refine wpAnyH_ready (rs := [11]) (by kernel_rfl) (by simp) ?_
        refine AllReadyH.cons (o := _) rfl (fun K hK => ?_) AllReadyH.nil
        go_simp
        refine hK.out _ _ ?_ (fun hHeld => ?_)
        · exact E8
        clear hK K
        try simp only [Act.put, List.setIfInBounds_toArray, List.set_cons_zero, List.set_cons_succ]
        refine wpAnyH_ready (rs := [12]) (by kernel_rfl) (by simp) ?_
        refine AllReadyH.cons (o := _) rfl (fun K hK => ?_) AllReadyH.nil
        go_simp
        have EF : Below wm.heap.size wm (World.alloc w8 _) := Below.alloc (E8) (Below.size (E8)) (.cells #[.int .i64 P0, .int .i64 P1] 3)
        refine hK.out _ _ ?_ (fun hHeld => ?_)
        · exact EF
        clear hK K
        try simp only [Act.put, List.setIfInBounds_toArray, List.set_cons_zero, List.set_cons_succ]
        refine wpAnyH_ready (rs := [13]) (by kernel_rfl) (by simp) ?_
        refine AllReadyH.cons (o := _) rfl (fun K hK => ?_) AllReadyH.nil
        go_simp
        refine hK.out _ _ ?_ (fun hHeld => ?_)
        · exact EF
        clear hK K
        try simp only [Act.put, List.setIfInBounds_toArray, List.set_cons_zero, List.set_cons_succ]
        refine wpAnyH_done (by kernel_rfl) ?_ _
        go_wp2_with fail
        go_meet
        case rel => exact coll_lit2 P0 P1 (EM.trans (Below.mono E8 (by omega))) (by omega) (by have := Below.size E8; omega)
      · go_simp
        refine hK.out _ _ ?_ (fun hHeld => ?_)
        · exact E8
        clear hK K
        try simp only [Act.put, List.setIfInBounds_toArray, List.set_cons_zero, List.set_cons_succ]
        refine wpAnyH_ready (rs := [5]) (by kernel_rfl) (by simp) ?_
        refine AllReadyH.cons (o := _) rfl (fun K hK => ?_) AllReadyH.nil
        go_simp
        refine hK.out _ _ ?_ (fun hHeld => ?_)
        · exact E8
        clear hK K
        try simp only [Act.put, List.setIfInBounds_toArray, List.set_cons_zero, List.set_cons_succ]
        refine wpAnyH_ready (rs := [12]) (by kernel_rfl) (by simp) ?_
        refine AllReadyH.cons (o := _) rfl (fun K hK => ?_) AllReadyH.nil
        go_simp
        have EF : Below wm.heap.size wm (World.alloc w8 _) := Below.alloc (E8) (Below.size (E8)) (.cells #[.int .i64 P0, .int .i64 P1] 3)
        refine hK.out _ _ ?_ (fun hHeld => ?_)
        · exact EF
        clear hK K
        try simp only [Act.put, List.setIfInBounds_toArray, List.set_cons_zero, List.set_cons_succ]
        refine wpAnyH_ready (rs := [13]) (by kernel_rfl) (by simp) ?_
        refine AllReadyH.cons (o := _) rfl (fun K hK => ?_) AllReadyH.nil
        go_simp
        refine hK.out _ _ ?_ (fun hHeld => ?_)
        · exact EF
        clear hK K
        try simp only [Act.put, List.setIfInBounds_toArray, List.set_cons_zero, List.set_cons_succ]
        refine wpAnyH_done (by kernel_rfl) ?_ _
        go_wp2_with fail
        go_meet
        case rel => exact coll_lit2 P0 P1 (EM.trans (Below.mono E8 (by omega))) (by omega) (by have := Below.size E8; omega)
  case rest =>
    have HCUT := Lib.hid hcut
    clear hcut HS0 HS1 hRm HBM EM zM zW1
    go_wp2_with fail
    go_loopw [6, 7] (fun s6 s7 wr => ∃ t : Nat, s7 = .int .i64 t ∧ t ≤ n ∧ Coll (w.alloc (.cells #[.int .i64 num, .int .i64 damp, .int .i64 D] 23)) (w.heap.size + 1) ((partsL num damp D n).take (t + 2)) s6 wr) (fun _ s7 _ => n - (intOf s7).toNat)
    case atStart => exact ⟨0, rfl, by omega, by rw [HL.out]; exact HCUT.out⟩
    case round =>
      obtain ⟨t, rfl, ht, hst⟩ := hrel
      have Hst := Lib.hid hst
      clear hst
      by_cases htn : t < n
      · have i4 : (t : Int) < (n : Int) := by omega
        have i5 : (0 : Int) ≤ (t : Int) := by omega
        go_wp2_with ((with_reducible refine wpList_make_full _ rfl _ _ 25 rfl wr.heap.size 3 i0 (.int .i64 0) 1 Try.underlying25 hi0 hz0 hz1 .i64 .i64 n n n rfl rfl rfl rfl (by rw [hz2]; omega) (by unfold maxLen; omega) (Nat.le_refl _) ?_); intro wk hok2 hgk; (have EK := none_below hgk); (obtain ⟨_, ⟨uk, ck⟩, fk, gk⟩ := own_cell hok2 htn); (have EK2 := EK.setCell (p := ⟨wr.heap.size, t, none⟩) (by show wr.heap.size ≤ wr.heap.size; exact Nat.le_refl _) (.int .i64 1)); (have RK := RI.setAt (zs := List.replicate n 0) (t := t) (x := 1) (by have h := hok2; rw [show (Value.int .i64 0).cells = #[.int .i64 0] from rfl, toList_madeCells_one, Nat.mul_one] at h; simpa [ints] using h) (by simp) htn); (rw [unit_set] at RK); (have hx := blk_cells ((Hst.out.below.block w.heap.size (by simp)).trans HBOX.out)); (have nwr := hp_lt ((Hst.out.below.block w.heap.size (by simp)).trans HBOX.out)); (have x0 := (EK.cell (p := ⟨w.heap.size, 0, none⟩) nwr).trans (hx 0).1); (have x1 := (EK.cell (p := ⟨w.heap.size, 1, none⟩) nwr).trans (hx 1).1); (have x2 := (EK.cell (p := ⟨w.heap.size, 2, none⟩) nwr).trans (hx 2).1); (simp only [Array.getElem?_eq_getElem, List.size_toArray, List.length_cons, List.length_nil, Nat.reduceAdd, Nat.reduceLT, List.getElem_toArray, List.getElem_cons_zero, List.getElem_cons_succ] at x0 x1 x2); (have nw1 : w.heap.size ≠ wr.heap.size := by omega); (have HRK := Lib.hid RK); (have HEK2 := Lib.hid EK2); clear hok2 hgk hx RK EK2)
        have hok3 := unit_ok hok (n := n) (i := t + 2) hn
        obtain ⟨P, hP⟩ : ∃ z, z = partN num damp D n (t + 2) := ⟨_, rfl⟩
        have HA := Lib.hid (show (swL num damp D 0 0 (unitG n (t + 2)))[n]? = some P by rw [hP]; exact swL_last (unitG_len n (t + 2)))
        have HN := Lib.hid (take_next (partsL_at (num := num) (damp := damp) (D := D) (show t + 2 < n + 2 by omega)))
        rw [← hP] at HN
        clear hP
        have HSW := fun W h => ref_swung num damp D 0 0 (.slice (some ⟨wr.heap.size, 0, none⟩) n n) (unitG n (t + 2)) W h hok3
        go_wp2_with fail
        refine (HSW _ HRK.out).mono ?_
        rintro e w4 ⟨v4, rfl, hb4, hr4⟩
        obtain ⟨b4, o4, c4, rfl, hlt4, hcell4⟩ := hr4.atN (n := n + 1) (by rw [swL_len, unitG_len]) HA.out
        have E4 := HEK2.out.trans (hb4.mono (by simp [World.setCell]; exact EK.size))
        have H4 := Lib.hid (Hst.out.quiet E4)
        have hkl := Lib.hid (show ((partsL num damp D n).take (t + 2)).length = t + 2 by rw [List.length_take, partsL_len]; omega)
        have HO := Lib.hid (by have h := H4.out.own; rw [hkl.out] at h; exact h)
        clear hr4 x0 x1 x2 ck fk
        go_wp2_with (at_builtin; refine wpList_append_own _ rfl _ _ 25 rfl (w.heap.size + 1) 3 i0 (.int .i64 0) 1 8 Try.underlying25 hi0 hz0 hz1 hz2 rfl (by decide) _ (t + 2) _ rfl (HO.out.alloc _) ⟨w4.heap.size, 0, none⟩ 1 1 [.int .i64 P] rfl rfl ?c1 ?c2 ?c3 ?c4 ?c5 ?_)
        case c1 => exact cell_one w4 _ 3
        case c2 => intro u hu; simp at hu; subst hu; rfl
        case c3 => unfold maxLen; omega
        case c4 => omega
        case c5 => have := H4.out.bl; simp; omega
        intro v6 w6 ho6 hg6 _
        have hn6 := Lib.hid (H4.out.next P _ hg6 (by rw [hkl.out]; exact ho6))
        clear ho6 hg6
        go_wp2
        go_roundw
        case rel => exact ⟨t + 1, by go_num, by omega, by rw [show t + 1 + 2 = t + 2 + 1 by omega, HN.out]; exact hn6.out⟩
        case measure => simp [intOf]; omega
      · obtain rfl : t = n := by omega
        go_wp2
        go_ret
        have h := Hst.out.reads
        rw [List.take_of_length_le (by rw [partsL_len]; omega)] at h
        exact ⟨_, rfl, E0.trans (Hst.out.below.mono (by simp)), h⟩

end Go.Proofs.Ytliddinpfgpnfaa
