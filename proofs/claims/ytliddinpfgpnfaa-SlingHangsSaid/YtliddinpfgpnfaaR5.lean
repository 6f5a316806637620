/- Contracts of the specification: the stops of a span, the bound of a box. -/
import Derived.Test.YtliddinpfgpnfaaR4
namespace Go.Proofs.Ytliddinpfgpnfaa
open Go Go.RowKit Go.Sort
set_option linter.unusedSimpArgs false
set_option linter.unusedVariables false

theorem StAt.quiet {lo hi : Int} {W : World} {acc : List Int} {v : Value} {w w' : World} (h : StAt lo hi W acc v w) (hb : Below w.heap.size w w') : StAt lo hi W acc v w' :=
  ⟨h.below.trans (hb.mono h.below.size), by have := h.lt; have := hb.size; omega, by rw [hb.block _ h.lt]; exact h.blk, own_below h.own hb, h.len⟩

set_option maxRecDepth 100000 in
set_option maxHeartbeats 3200000 in
theorem ref_corners (v : Value) (zs : List Int) (lo hi : Int) (w : World) (hR : RI w v zs) (hl : zs.length ≤ 1000000) :
    Calls Try.prog 109 #[v, .agg #[.int .i64 lo, .int .i64 hi]] w (StopsPost (stopsL zs lo hi) w) := by
  obtain ⟨A, c, rfl, hc⟩ := hR.form
  obtain ⟨i0, hi0, hz0, hz1, hz2⟩ := info_parts info3
  have B1 := (Below.refl w.heap.size w).alloc (Nat.le_refl _) (.cells #[.int .i64 lo, .int .i64 hi] 27)
  go_enter Try.func109, Try.ntmps109
  go_wp2
  have hini : StAt lo hi w [lo] (.slice (some ⟨w.heap.size + 1, 0, none⟩) 1 1) ((w.alloc (.cells #[.int .i64 lo, .int .i64 hi] 27)).alloc (.cells #[.int .i64 lo] 3)) :=
    ⟨B1.alloc B1.size _, by simp; omega, by rw [Below.heap_alloc _ _ _ (by simp), heap_alloc_new], by
      have := World.ownsRow_lit (base := w.heap.size + 1) (e := 3) (size := 1) (w.alloc (.cells #[.int .i64 lo, .int .i64 hi] 27)) #[.int .i64 lo] 1 (by simp) (by decide) rfl
      simpa [ints] using this, by simp⟩
  go_loopw [5, 6] (fun s5 s6 wr => ∃ k : Nat, s6 = .int .i64 k ∧ k ≤ zs.length ∧ StAt lo hi w (lo :: (zs.take k).filter (inB lo hi)) s5 wr) (fun _ s6 _ => zs.length - (intOf s6).toNat)
  case atStart => exact ⟨0, rfl, by omega, hini⟩
  case round =>
    obtain ⟨k, rfl, hk, hst⟩ := hrel
    have Hst := Lib.hid hst
    clear hst
    have hsp0 := (blk_cells Hst.out.blk 0).1
    have hsp1 := (blk_cells Hst.out.blk 1).1
    simp at hsp0 hsp1
    have hwz := Hst.out.lt
    have hn : (lo :: (zs.take k).filter (inB lo hi)).length + 1 ≤ 2000000 := by
      have := List.length_filter_le (inB lo hi) (zs.take k); simp at this ⊢; omega
    by_cases hlt : k < zs.length
    · obtain ⟨b, o, c', x, e, hbx, hx, hcell⟩ := (hR.below Hst.out.below).at hlt
      cases e
      have Hf := Lib.hid (filter_snoc (inB lo hi) hx)
      have i0' : (0 : Int) ≤ (k : Int) := by omega
      have i1' : (k : Int) < (zs.length : Int) := by omega
      clear hx
      cases hp : inB lo hi x
      · have hq := Lib.hid hp
        simp only [inB, Bool.and_eq_false_iff, decide_eq_false_iff_not] at hp
        by_cases h1 : lo < x
        · have d1 : decide (lo < x) = true := by simpa using h1
          have d2 : decide (x < hi) = false := by simp; omega
          clear hp h1
          go_wp2_with fail
          refine rg_all (by kernel_rfl) (by kernel_rfl) ?_
          repeat (go_big_quiet_step (fail))
          refine wpQuiet_nil ?_
          intro w4 hw4
          have Hst4 := Lib.hid (Hst.out.quiet (rg_below hw4))
          obtain ⟨hc4, hf4, hs4⟩ := bcell (rg_below hw4)
          clear hw4
          go_wp2
          go_roundw
          case rel => exact ⟨k + 1, by go_num, by omega, by rw [Hf.out, hq.out]; simpa using Hst4.out⟩
          case measure => simp [intOf]; omega
        · have d1 : decide (lo < x) = false := by simp; omega
          clear hp h1
          go_wp2_with fail
          refine rg_all (by kernel_rfl) (by kernel_rfl) ?_
          repeat (go_big_quiet_step (fail))
          refine wpQuiet_nil ?_
          intro w4 hw4
          have Hst4 := Lib.hid (Hst.out.quiet (rg_below hw4))
          obtain ⟨hc4, hf4, hs4⟩ := bcell (rg_below hw4)
          clear hw4
          go_wp2
          go_roundw
          case rel => exact ⟨k + 1, by go_num, by omega, by rw [Hf.out, hq.out]; simpa using Hst4.out⟩
          case measure => simp [intOf]; omega
      · have hq := Lib.hid hp
        simp only [inB, Bool.and_eq_true, decide_eq_true_eq] at hp
        have d1 : decide (lo < x) = true := by simpa using hp.1
        have d2 : decide (x < hi) = true := by simpa using hp.2
        clear hp
        go_wp2_with fail
        refine rg_all (by kernel_rfl) (by kernel_rfl) ?_
        repeat (go_big_quiet_step (fail))
        refine wpQuiet_nil ?_
        intro w4 hw4
        have Hst4 := Lib.hid (Hst.out.quiet (rg_below hw4))
        obtain ⟨hc4, hf4, hs4⟩ := bcell (rg_below hw4)
        clear hw4
        obtain ⟨acc, hacc⟩ : ∃ acc, acc = lo :: (zs.take k).filter (inB lo hi) := ⟨_, rfl⟩
        rw [← hacc] at Hst4 hn
        have Hacc := Lib.hid hacc
        clear hacc
        go_wp2_with (at_builtin; refine wpList_append_own _ rfl _ _ 25 rfl (w.heap.size + 1) 3 i0 (.int .i64 0) 1 8 Try.underlying25 hi0 hz0 hz1 hz2 rfl (by decide) _ acc.length _ rfl (Hst4.out.own.alloc _) ⟨w4.heap.size, 0, none⟩ 1 1 [.int .i64 x] rfl rfl ?c1 ?c2 ?c3 ?c4 ?c5 ?_)
        case c1 => exact cell_one w4 _ 3
        case c2 => intro u hu; simp at hu; subst hu; rfl
        case c3 => unfold maxLen; omega
        case c4 => omega
        case c5 => have := Hst4.out.lt; simp; omega
        intro v6 w6 ho6 hg6 _
        have hn6 := Lib.hid (Hst4.out.next x _ hg6 ho6 hn)
        clear ho6 hg6
        go_wp2
        go_roundw
        case rel => exact ⟨k + 1, by go_num, by omega, by rw [Hf.out, hq.out]; have := hn6.out; rw [Hacc.out] at this; simpa using this⟩
        case measure => simp [intOf]; omega
    · obtain rfl : k = zs.length := by omega
      obtain ⟨acc, hacc⟩ : ∃ acc, acc = lo :: (zs.take zs.length).filter (inB lo hi) := ⟨_, rfl⟩
      rw [← hacc] at Hst hn
      have Hacc := Lib.hid (show acc = lo :: zs.filter (inB lo hi) by rw [hacc, List.take_length])
      clear hacc
      by_cases h1 : lo < hi
      · go_wp2_with (at_builtin; refine wpList_append_own _ rfl _ _ 25 rfl (w.heap.size + 1) 3 i0 (.int .i64 0) 1 8 Try.underlying25 hi0 hz0 hz1 hz2 rfl (by decide) _ acc.length _ rfl (Hst.out.own.alloc _) ⟨wr.heap.size, 0, none⟩ 1 1 [.int .i64 hi] rfl rfl ?c1 ?c2 ?c3 ?c4 ?c5 ?_)
        case c1 => exact cell_one wr _ 3
        case c2 => intro u hu; simp at hu; subst hu; rfl
        case c3 => unfold maxLen; omega
        case c4 => omega
        case c5 => simp; omega
        intro v6 w6 ho6 hg6 _
        have hn6 := Lib.hid (Hst.out.next hi _ hg6 ho6 hn)
        clear ho6 hg6
        go_wp2
        go_ret
        have := hn6.out.done
        rw [Hacc.out] at this
        rw [stopsL, if_pos h1]
        exact this
      · go_wp2
        go_ret
        have := Hst.out.done
        rw [Hacc.out] at this
        rw [stopsL, if_neg (by omega), List.append_nil]
        exact this

end Go.Proofs.Ytliddinpfgpnfaa
