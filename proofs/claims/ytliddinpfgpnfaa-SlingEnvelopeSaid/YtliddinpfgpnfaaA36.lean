/- Contract: the parts of a set of starts and gusts. -/
import Derived.Test.YtliddinpfgpnfaaA34
import Derived.Test.YtliddinpfgpnfaaA5
namespace Go.Proofs.Ytliddinpfgpnfaa
open Go Go.RowKit Go.Sort
set_option linter.unusedSimpArgs false
set_option linter.unusedVariables false

theorem hp_lt {w : World} {g : Nat} {o : Obj} (h : w.heap[g]? = some o) : g < w.heap.size := by
  rcases Nat.lt_or_ge g w.heap.size with q | q
  · exact q
  · rw [Array.getElem?_eq_none q] at h; cases h

/-- A slice of whole numbers that a call collects: its block lies from B on. -/
structure Coll (W : World) (B : Nat) (acc : List Int) (v : Value) (w : World) : Prop where
  below : Below W.heap.size W w
  bs : W.heap.size ≤ B
  bl : B ≤ w.heap.size
  own : w.ownsRow B 3 1 v acc.length (ints acc)

theorem Coll.quiet {W : World} {B : Nat} {acc : List Int} {v : Value} {w w' : World} (h : Coll W B acc v w) (hb : Below w.heap.size w w') : Coll W B acc v w' :=
  ⟨h.below.trans (hb.mono h.below.size), h.bs, by have := hb.size; have := h.bl; omega, own_below h.own hb⟩

theorem Coll.next {W : World} {B : Nat} {acc : List Int} {v v' : Value} {w w' : World} (h : Coll W B acc v w) (x : Int) (o : Obj) (hg : (w.alloc o).grownBy w' v.ownBlock)
    (ho : w'.ownsRow B 3 1 v' (acc.length + 1) (ints acc ++ [.int .i64 x])) : Coll W B (acc ++ [x]) v' w' := by
  have hown := h.own.lt
  have hbs := h.bs
  have hbl := h.bl
  have hz := h.below.size
  refine ⟨(h.below.alloc hz o).grown hg (by simp; omega) (fun j hj => by have := hown j hj; omega), hbs, by have := hg.size; simp at this; omega, ?_⟩
  rw [ints_snoc]
  simpa using ho

theorem Coll.reads {W : World} {B : Nat} {acc : List Int} {v : Value} {w : World} (h : Coll W B acc v w) : RI w v acc := RS.of_own h.own

abbrev ldC (num damp D a v d : Int) : Obj := .cells #[.int .i64 num, .int .i64 damp, .int .i64 D, .int .i64 a, .int .i64 v, .int .i64 d] 89 (0, 0)

theorem unit_ok {num damp D : Int} (h : ok3 num damp D) {n i : Nat} (hn : n ≤ 16) : Starts num damp D (pa i) (pv i) (unitG n i) := by
  refine ⟨h, ?_, ?_, by rw [unitG_len]; exact hn, ?_⟩
  · unfold pa; split <;> decide
  · unfold pv; split <;> decide
  · intro g hg
    simp only [unitG, List.mem_map] at hg
    obtain ⟨t, _, rfl⟩ := hg
    unfold u1; split <;> decide

theorem take_next {α : Type} {l : List α} {k : Nat} {x : α} (h : l[k]? = some x) : l.take (k + 1) = l.take k ++ [x] := by rw [List.take_add_one, h]; rfl

theorem sw3 (k : Nat) : (((k : Int) == 0) = true ∧ pa k = 1 ∧ pv k = 0) ∨ (((k : Int) == 0) = false ∧ ((k : Int) == 1) = true ∧ pa k = 0 ∧ pv k = 1) ∨ (((k : Int) == 0) = false ∧ ((k : Int) == 1) = false ∧ pa k = 0 ∧ pv k = 0) := by
  match k with
  | 0 => left; decide
  | 1 => right; left; decide
  | k + 2 =>
    right; right
    refine ⟨by simp; omega, by simp; omega, ?_, ?_⟩
    · unfold pa; rw [if_neg (by omega)]
    · unfold pv; rw [if_neg (by omega)]

theorem sw_u (k t : Nat) : (((k : Int) == (t : Int) + 2) = true ∧ (k == t + 2) = true ∧ u1 k t = 1) ∨ (((k : Int) == (t : Int) + 2) = false ∧ (k == t + 2) = false ∧ u1 k t = 0) := by
  by_cases h : k = t + 2
  · left; exact ⟨by simp; omega, by simp [h], if_pos h⟩
  · right; exact ⟨by simp; omega, by simp [h], if_neg h⟩

theorem wp_any {P : Program} {c : Code} {Q : Exit → Act → World → Prop} {a : Act} {W : World} (R : World → Prop) (h : R W) (k : ∀ w2, R w2 → Code.wp P c Q a w2) : Code.wp P c Q a W := k W h

theorem ld_set {w : World} {num damp D a v d a' v' : Int} {L : Nat} (h : w.heap[L]? = some (ldC num damp D a v d)) : (w.setCell ⟨L, 3, none⟩ (.int .i64 a')).heap[L]? = some (ldC num damp D a' v d) ∧ (w.setCell ⟨L, 4, none⟩ (.int .i64 v')).heap[L]? = some (ldC num damp D a v' d) := by
  rw [heap_setCell_at h, heap_setCell_at h]
  exact ⟨rfl, rfl⟩

def denK (D : Int) (n k : Nat) : Int := if k = 0 then 0 else D ^ n

def PartsPost (num damp D : Int) (n : Nat) (w : World) (e : Ending) (w' : World) : Prop :=
  ∃ vo, e = .returned (.tuple #[vo, .int .i64 (D ^ n)]) ∧ Below w.heap.size w w' ∧ w'.ownsRow w.heap.size 3 1 vo (partsL num damp D n).length (ints (partsL num damp D n))

set_option maxRecDepth 100000 in
set_option maxHeartbeats 12800000 in
theorem sling_parts (b : Nat) (num damp D gl gh : Int) (vb : Value) (n : Nat) (w : World) (hb : w.heap[b]? = some (setC num damp D vb gl gh)) (hok : ok3 num damp D) (hn : n ≤ 16) :
    Calls Try.prog 71 #[.pointer (some ⟨b, 0, none⟩), .int .i64 n] w (PartsPost num damp D n w) := by
  have hlt : b < w.heap.size := hp_lt hb
  obtain ⟨i0, hi0, hz0, hz1, hz2⟩ := info_parts info3
  have HB := Lib.hid hb
  clear hb
  go_enter Try.func71, Try.ntmps71
  go_wp2_with fail
  go_loopw [4, 5, 12] (fun s4 s5 s12 wr => ∃ k : Nat, s12 = .int .i64 k ∧ k ≤ n + 2 ∧ s5 = .int .i64 (denK D n k) ∧ Coll w w.heap.size ((partsL num damp D n).take k) s4 wr) (fun _ _ s12 _ => n + 2 - (intOf s12).toNat)
  case atStart => exact ⟨0, rfl, by omega, rfl, Below.refl _ _, Nat.le_refl _, Nat.le_refl _, World.ownsRow_nil _ _ _ _⟩
  case round =>
    obtain ⟨w1, hw1⟩ : ∃ z, z = wr := ⟨_, rfl⟩
    subst hw1
    obtain ⟨k, rfl, hk, rfl, hst⟩ := hrel
    have Hst := Lib.hid hst
    clear hst
    have hbr := (Hst.out.below.block b hlt).trans HB.out
    obtain ⟨c0, c1, c2, c3, c4, c5⟩ := set_cells hbr
    have hltr := hp_lt hbr
    clear hbr
    by_cases hkn : k < n + 2
    · have hkn' : (k : Int) < (n : Int) + 2 := by omega
      have i2 : (0 : Int) ≤ (k : Int) := by omega
      rcases sw3 k with ⟨e0, p0, p1⟩ | ⟨e0, e1, p0, p1⟩ | ⟨e0, e1, p0, p1⟩
      all_goals
        have PP := Lib.hid (And.intro p0 p1)
        clear p0 p1
        go_wp2_with fail
        refine wp_any (fun w2 => Below w1.heap.size w1 w2 ∧ w2.heap[w1.heap.size]? = some (ldC num damp D (pa k) (pv k) 1) ∧ w1.heap.size < w2.heap.size) ?_ ?_
        · rw [PP.out.1, PP.out.2]
          first
            | exact ⟨(Below.refl _ _).alloc (Nat.le_refl _) _, heap_alloc_new _ _, by simp⟩
            | exact ⟨((Below.refl _ _).alloc (Nat.le_refl _) _).setCell (Nat.le_refl _) _, (ld_set (heap_alloc_new _ _)).1, by simp [World.setCell]⟩
            | exact ⟨((Below.refl _ _).alloc (Nat.le_refl _) _).setCell (Nat.le_refl _) _, (ld_set (heap_alloc_new _ _)).2, by simp [World.setCell]⟩
        rintro w2 ⟨E2, hbl2, hlt2⟩
        have Hbl2 := Lib.hid hbl2
        clear hbl2 c0 c1 c2 c3 c4 c5
        go_loopw [33] (fun s33 wr => ∃ t : Nat, s33 = .int .i64 t ∧ t ≤ n ∧ Below w1.heap.size w1 wr ∧ w1.heap.size < wr.heap.size ∧ wr.heap[w1.heap.size]? = some (ldC num damp D (runs num damp D (pa k, pv k, 1) ((unitG n k).take t)).1 (runs num damp D (pa k, pv k, 1) ((unitG n k).take t)).2.1 (runs num damp D (pa k, pv k, 1) ((unitG n k).take t)).2.2)) (fun s33 _ => n - (intOf s33).toNat)
        case atStart => exact ⟨0, rfl, by omega, E2, hlt2, Hbl2.out⟩
        case round =>
          obtain ⟨t, rfl, ht, EQ, hLq, hblq⟩ := hrel
          by_cases htn : t < n
          · have Hx := Lib.hid (unitG_at (i := k) htn)
            have hS := unit_ok hok (i := k) hn
            have hg := hS.gusts _ (List.mem_of_getElem? Hx.out)
            have hT := take_next Hx.out
            obtain ⟨r1, r2, r3⟩ := runs_bound (hS.take t)
            have p1 := pow_small D hok.1 hok.2.1 ((unitG n k).take t).length (by simp; omega)
            rw [← r3] at p1
            have Hc4 := tick_block w1.heap.size num damp D _ _ _ (u1 k t) wr hblq hok r1 r2 (by omega) (by omega) hg
            have HT := Lib.hid (show tk num damp D (runs num damp D (pa k, pv k, 1) ((unitG n k).take t)) (u1 k t) = runs num damp D (pa k, pv k, 1) ((unitG n k).take (t + 1)) by rw [hT, runs_snoc])
            rw [show ((runs num damp D (pa k, pv k, 1) ((unitG n k).take t)).1, (runs num damp D (pa k, pv k, 1) ((unitG n k).take t)).2.1, (runs num damp D (pa k, pv k, 1) ((unitG n k).take t)).2.2) = runs num damp D (pa k, pv k, 1) ((unitG n k).take t) from rfl, HT.out] at Hc4
            clear r1 r2 r3 p1 hT hblq hg hS
            have i4 : (t : Int) < (n : Int) := by omega
            rcases sw_u k t with ⟨e5, e6, p5⟩ | ⟨e5, e6, p5⟩
            all_goals
              rw [p5] at Hc4
              have P5 := Lib.hid p5
              clear p5
              go_wp2_with fail
              refine Hc4.mono ?_
              rintro e w4 ⟨rfl, ho4, hb4⟩
              have Hb4 := Lib.hid hb4
              clear hb4 Hc4
              go_wp2_with fail
              go_roundw
              case rel => exact ⟨t + 1, by go_num, by omega, EQ.trans (ho4.below (Nat.le_refl _)), by have := ho4.size; omega, Hb4.out⟩
              case measure => simp [intOf]; omega
          · obtain rfl : t = n := by omega
            have hS := unit_ok hok (i := k) hn
            obtain ⟨r1, r2, r3⟩ := runs_bound hS
            rw [unitG_len] at r3
            rw [show (unitG t k).take t = unitG t k by rw [List.take_of_length_le (by rw [unitG_len]; omega)], r3] at hblq
            have HQ := Lib.hid (Hst.out.quiet EQ)
            obtain ⟨P, hP⟩ : ∃ z, z = partN num damp D t k := ⟨_, rfl⟩
            have hblk : wr.heap[w1.heap.size]? = some (ldC num damp D P (runs num damp D (pa k, pv k, 1) (unitG t k)).2.1 (D ^ t)) := by rw [hP]; exact hblq
            have HP := Lib.hid hP
            generalize (runs num damp D (pa k, pv k, 1) (unitG t k)).2.1 = Qv at hblk
            clear hP hblq r1 r2 r3 hS
            have hkl := Lib.hid (show ((partsL num damp D t).take k).length = k by rw [List.length_take, partsL_len]; omega)
            have HO := Lib.hid (by have h := HQ.out.own; rw [hkl.out] at h; exact h)
            go_wp2_with fail
            refine wp_region_held_drew (S := fun w' => w'.heap[w1.heap.size]? = some (ldC num damp D P Qv (D ^ t))) (by kernel_rfl) (hblk) (fun hHeld => ?_)
            refine wpAnyH_take (i := 0) (oi := _) (v := ?_) rfl (by kernel_rfl) (by kernel_rfl) (by kernel_rfl) (fun _ _ _ h => h) (Or.inl ⟨by kernel_rfl, ?_⟩) hHeld ?_
            rotate_left
            · (intro w' hSw; (skip); go_simp; try (with_reducible rfl))
            simp only [Act.put, List.setIfInBounds_toArray, List.set_cons_zero, List.set_cons_succ]
            refine wpAnyH_take (i := 1) (oi := _) (v := ?_) rfl (by kernel_rfl) (by kernel_rfl) (by kernel_rfl) (fun _ _ _ h => h) (Or.inl ⟨by kernel_rfl, ?_⟩) hHeld ?_
            rotate_left
            · (intro w' hSw; (skip); go_simp; try (with_reducible rfl))
            simp only [Act.put, List.setIfInBounds_toArray, List.set_cons_zero, List.set_cons_succ]
            refine wpAnyH_take (i := 2) (oi := _) (v := ?_) rfl (by kernel_rfl) (by kernel_rfl) (by kernel_rfl) (fun _ _ _ h => h) (Or.inl ⟨by kernel_rfl, ?_⟩) hHeld ?_
            rotate_left
            · (intro w' hSw; (skip); go_simp; try (with_reducible rfl))
            simp only [Act.put, List.setIfInBounds_toArray, List.set_cons_zero, List.set_cons_succ]
            refine wpAnyH_take (i := 3) (oi := _) (v := ?_) rfl (by kernel_rfl) (by kernel_rfl) (by kernel_rfl) (fun _ _ _ h => h) (Or.inl ⟨by kernel_rfl, ?_⟩) hHeld ?_
            rotate_left
            · (intro w' hSw; (skip); go_simp; try (with_reducible rfl))
            simp only [Act.put, List.setIfInBounds_toArray, List.set_cons_zero, List.set_cons_succ]
            refine wpAnyH_take (i := 4) (oi := _) (v := ?_) rfl (by kernel_rfl) (by kernel_rfl) (by kernel_rfl) (fun _ _ _ h => h) (Or.inl ⟨by kernel_rfl, ?_⟩) hHeld ?_
            rotate_left
            · (intro w' hSw; ((have hXq := hSw; have hx3 := (blk_cells hXq 3).1; have hx5 := (blk_cells hXq 5).1; simp only [Array.getElem?_eq_getElem, List.size_toArray, List.length_cons, List.length_nil, Nat.reduceAdd, Nat.reduceLT, List.getElem_toArray, List.getElem_cons_zero, List.getElem_cons_succ] at hx3 hx5)); go_simp; try (with_reducible rfl))
            simp only [Act.put, List.setIfInBounds_toArray, List.set_cons_zero, List.set_cons_succ]
            refine wpAnyH_take (i := 7) (oi := _) (v := ?_) rfl (by kernel_rfl) (by kernel_rfl) (by kernel_rfl) (fun _ _ _ h => h) (Or.inl ⟨by kernel_rfl, ?_⟩) hHeld ?_
            rotate_left
            · (intro w' hSw; (skip); go_simp; try (with_reducible rfl))
            simp only [Act.put, List.setIfInBounds_toArray, List.set_cons_zero, List.set_cons_succ]
            refine wpAnyH_take (i := 8) (oi := _) (v := ?_) rfl (by kernel_rfl) (by kernel_rfl) (by kernel_rfl) (fun _ _ _ h => h) (Or.inl ⟨by kernel_rfl, ?_⟩) hHeld ?_
            rotate_left
            · (intro w' hSw; (skip); go_simp; try (with_reducible rfl))
            simp only [Act.put, List.setIfInBounds_toArray, List.set_cons_zero, List.set_cons_succ]
            refine wpAnyH_take (i := 9) (oi := _) (v := ?_) rfl (by kernel_rfl) (by kernel_rfl) (by kernel_rfl) (fun _ _ _ h => h) (Or.inl ⟨by kernel_rfl, ?_⟩) hHeld ?_
            rotate_left
            · (intro w' hSw; (skip); go_simp; try (with_reducible rfl))
            simp only [Act.put, List.setIfInBounds_toArray, List.set_cons_zero, List.set_cons_succ]
            refine wpAnyH_take (i := 10) (oi := _) (v := ?_) rfl (by kernel_rfl) (by kernel_rfl) (by kernel_rfl) (fun _ _ _ h => h) (Or.inl ⟨by kernel_rfl, ?_⟩) hHeld ?_
            rotate_left
            · (intro w' hSw; ((have hXq := hSw; have hx3 := (blk_cells hXq 3).1; have hx5 := (blk_cells hXq 5).1; simp only [Array.getElem?_eq_getElem, List.size_toArray, List.length_cons, List.length_nil, Nat.reduceAdd, Nat.reduceLT, List.getElem_toArray, List.getElem_cons_zero, List.getElem_cons_succ] at hx3 hx5)); go_simp; try (with_reducible rfl))
            simp only [Act.put, List.setIfInBounds_toArray, List.set_cons_zero, List.set_cons_succ]
            refine wpAnyH_ready (rs := [5]) (by kernel_rfl) (by simp) ?_
            refine AllReadyH.cons (o := _) rfl (fun K hK => ?_) AllReadyH.nil
            go_simp
            have Ea : (wr.drew.alloc (.cells #[.int .i64 P] 3)).heap[w1.heap.size]? = some (ldC num damp D P Qv (D ^ t)) := (Below.heap_alloc _ _ _ hLq).trans hblk
            refine hK.out _ _ ?_ (fun hHeld => ?_)
            · exact Ea
            clear hK K
            try simp only [Act.put, List.setIfInBounds_toArray, List.set_cons_zero, List.set_cons_succ]
            refine wpAnyH_ready (rs := [6]) (by kernel_rfl) (by simp) ?_
            refine AllReadyH.cons (o := _) rfl (fun K hK => ?_) AllReadyH.nil
            refine step_append_lies _ (by rfl) _ _ _ (by rfl) w.heap.size 3 i0 (.int .i64 0) 1 8 Try.underlying25 hi0 hz0 hz1 hz2 rfl (by decide) _ k _ (by rfl) ((HO.out.drew).alloc _) ⟨wr.heap.size, 0, none⟩ 1 1 [.int .i64 P] (by rfl) (by rfl) (World.news_of_block (cs := #[.int .i64 P]) (t := 3) (fr := (0, 0)) (heap_alloc_new wr.drew _)) (by simp [Value.oneCell']) (by omega) (by unfold maxLen; omega) (by omega) (by have := HQ.out.bl; simp; omega) (wr.heap.size + 1) (by simp) ?_
            intro gg cap w6 hown6 hgrow hat hlt6
            have HN6 := Lib.hid (Coll.next (Coll.quiet HQ.out ((Below.refl _ _).drew)) P _ hgrow (by rw [hkl.out]; exact hown6))
            have E6 : w6.heap[w1.heap.size]? = some (ldC num damp D P Qv (D ^ t)) := (hgrow.block w1.heap.size (by simp; omega) (fun e => by have := (World.ownsRow.lt Hst.out.own w1.heap.size e.symm).2; omega)).trans Ea
            clear hown6 hgrow hat hlt6
            refine hK.out _ _ ?_ (fun hHeld => ?_)
            · exact E6
            clear hK K
            try simp only [Act.put, List.setIfInBounds_toArray, List.set_cons_zero, List.set_cons_succ]
            refine wpAnyH_ready (rs := [11]) (by kernel_rfl) (by simp) ?_
            refine AllReadyH.cons (o := _) rfl (fun K hK => ?_) AllReadyH.nil
            go_simp
            refine hK.out _ _ ?_ (fun hHeld => ?_)
            · exact E6
            clear hK K
            try simp only [Act.put, List.setIfInBounds_toArray, List.set_cons_zero, List.set_cons_succ]
            refine wpAnyH_ready (rs := [12]) (by kernel_rfl) (by simp) ?_
            refine AllReadyH.cons (o := _) rfl (fun K hK => ?_) AllReadyH.nil
            go_simp
            refine hK.out _ _ ?_ (fun hHeld => ?_)
            · exact E6
            clear hK K
            try simp only [Act.put, List.setIfInBounds_toArray, List.set_cons_zero, List.set_cons_succ]
            refine wpAnyH_done (by kernel_rfl) ?_ _
            go_wp2_with fail
            go_roundw
            case rel => exact ⟨k + 1, by go_num, by omega, by rw [denK, if_neg (by omega)], by rw [take_next (partsL_at hkn), ← HP.out]; exact HN6.out⟩
            case measure => simp [intOf]; omega
    · obtain rfl : k = n + 2 := by omega
      go_wp2
      go_ret2
      refine ⟨_, rfl, Hst.out.below, ?_⟩
      have := Hst.out.own
      rwa [List.take_of_length_le (by rw [partsL_len]; omega)] at this

end Go.Proofs.Ytliddinpfgpnfaa
