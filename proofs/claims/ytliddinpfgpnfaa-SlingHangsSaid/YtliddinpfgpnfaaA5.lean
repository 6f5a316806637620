/- Contract: Swing of a right sling, start and gusts. -/
import Derived.Test.YtliddinpfgpnfaaA4
import Derived.Test.YtliddinpfgpnfaaB2
namespace Go.Proofs.Ytliddinpfgpnfaa
open Go Go.RowKit Go.Sort
set_option linter.unusedSimpArgs false
set_option linter.unusedVariables false

theorem swingE_zero {num damp D a v : Int} {gs : List Int} (h : swingE num damp D a v gs = 0) :
    slingV num damp D = 0 ∧ gs.length ≤ 16 ∧ (wi a (-1000) 1000 && wi v (-1000) 1000) = true ∧ badG gs = false ∧ Starts num damp D a v gs := by
  unfold swingE at h
  split at h
  · rename_i h1
    split at h
    · omega
    · rename_i h2
      split at h
      · rename_i h3
        simp only [Bool.and_eq_true, Bool.not_eq_true'] at h3
        refine ⟨h1, by omega, by simp [h3.1], h3.2, slingV_ok h1, ?_, ?_, by omega, ?_⟩
        · have := h3.1.1; simp only [wi, Bool.and_eq_true, decide_eq_true_eq] at this; omega
        · have := h3.1.2; simp only [wi, Bool.and_eq_true, decide_eq_true_eq] at this; omega
        · intro g hg
          have := h3.2
          simp only [badG, List.any_eq_false, Bool.not_eq_true, Bool.not_eq_false', wi, Bool.and_eq_true, decide_eq_true_eq] at this
          have := this g hg
          omega
      · omega
  · omega

theorem info24 : (Try.prog.info? 24).map (fun i => (i.zero, i.size, i.bytes)) = some (some (.agg #[.int .i64 0, .int .i64 0]), 2, 16) := by kernel_rfl

/-- Where the loop of Swing stands behind k ticks: L is the load's block. -/
structure SwAt (num damp D a v : Int) (gs : List Int) (W : World) (L : Nat) (k : Nat) (vo : Value) (w : World) : Prop where
  below : Below W.heap.size W w
  hL : W.heap.size ≤ L
  lt : L + 1 ≤ w.heap.size
  blk : w.heap[L]? = some (.cells #[.int .i64 num, .int .i64 damp, .int .i64 D, .int .i64 (runs num damp D (a, v, 1) (gs.take k)).1, .int .i64 (runs num damp D (a, v, 1) (gs.take k)).2.1, .int .i64 (runs num damp D (a, v, 1) (gs.take k)).2.2] 89 (0, 0))
  own : w.ownsRow (L + 1) 24 2 vo k (prs (fr num damp D (a, v, 1) (gs.take k)))

theorem tick_block (b : Nat) (num damp D a v d g : Int) (w : World) (hb : w.heap[b]? = some (.cells #[.int .i64 num, .int .i64 damp, .int .i64 D, .int .i64 a, .int .i64 v, .int .i64 d] 89 (0, 0)))
    (hok : ok3 num damp D) (ha : (a.natAbs : Int) ≤ 1000000000000000) (hv : (v.natAbs : Int) ≤ 1000000000000000) (hd0 : 0 ≤ d) (hd : d ≤ 4294967296) (hg : (g.natAbs : Int) ≤ 100) :
    Calls Try.prog 46 #[.pointer (some ⟨b, 0, none⟩), .int .i64 g] w fun e w' => e = .returned (.tuple #[]) ∧ Only b w w' ∧
      w'.heap[b]? = some (.cells #[.int .i64 num, .int .i64 damp, .int .i64 D, .int .i64 (tk num damp D (a, v, d) g).1, .int .i64 (tk num damp D (a, v, d) g).2.1, .int .i64 (tk num damp D (a, v, d) g).2.2] 89 (0, 0)) := by
  obtain ⟨t1, t2, t3⟩ := tick_plain (num := num) (damp := damp) (D := D) hok ha hv hd0 hd hg
  refine (sling_tick b num damp D a v d g w (by simp [blk_cells hb]) (by simp [blk_cells hb]) (by simp [blk_cells hb]) (by simp [blk_cells hb]) (by simp [blk_cells hb]) (by simp [blk_cells hb]) (blk_cells hb 3).2 (blk_cells hb 4).2 (blk_cells hb 5).2).mono ?_
  rintro e w' ⟨rfl, rfl⟩
  refine ⟨rfl, ⟨rfl, rfl, rfl, by simp [World.setCell, World.drew], fun k hk => ?_⟩, ?_⟩
  · show (((w.setCell _ _).setCell _ _).setCell _ _).heap[k]? = _
    rw [heap_setCell_ne hk, heap_setCell_ne hk, heap_setCell_ne hk]
  · show (((w.setCell _ _).setCell _ _).setCell _ _).heap[b]? = _
    rw [heap_setCell_at (heap_setCell_at (heap_setCell_at hb _) _) _]
    unfold tickV
    rw [t1, t2, t3]
    rfl

theorem SwAt.next {num damp D a v : Int} {gs : List Int} {W : World} {L k : Nat} {vo : Value} {w : World} (h : SwAt num damp D a v gs W L k vo w) {x : Int} (hx : gs[k]? = some x)
    {w1 w2 w3 : World} (h1 : Only L w w1) (hb : w1.heap[L]? = some (.cells #[.int .i64 num, .int .i64 damp, .int .i64 D, .int .i64 (tk num damp D (runs num damp D (a, v, 1) (gs.take k)) x).1, .int .i64 (tk num damp D (runs num damp D (a, v, 1) (gs.take k)) x).2.1, .int .i64 (tk num damp D (runs num damp D (a, v, 1) (gs.take k)) x).2.2] 89 (0, 0)))
    (h2 : Below w1.heap.size w1 w2) {vo' : Value} (h3 : w2.grownBy w3 vo.ownBlock)
    (ho : w3.ownsRow (L + 1) 24 2 vo' (k + 1) (prs (fr num damp D (a, v, 1) (gs.take k)) ++ [.int .i64 (lowP (tk num damp D (runs num damp D (a, v, 1) (gs.take k)) x).1 (tk num damp D (runs num damp D (a, v, 1) (gs.take k)) x).2.2).1, .int .i64 (lowP (tk num damp D (runs num damp D (a, v, 1) (gs.take k)) x).1 (tk num damp D (runs num damp D (a, v, 1) (gs.take k)) x).2.2).2])) :
    SwAt num damp D a v gs W L (k + 1) vo' w3 := by
  have hs1 := h1.size
  have hs2 := h2.size
  have hlt := h.lt
  have hL := h.hL
  have hT : gs.take (k + 1) = gs.take k ++ [x] := by rw [List.take_add_one, hx]; rfl
  have hown := h.own.lt
  refine ⟨?_, hL, by have := h3.size; omega, ?_, ?_⟩
  · refine (((h.below).trans (h1.below hL)).trans (h2.mono (by have := h.below.size; omega))).grown h3 (by have := h.below.size; omega) (fun j hj => by have := hown j hj; omega)
  · rw [h3.block L (by omega) (fun e => by have := hown L e.symm; omega), h2.block L (by omega), hb, hT, runs_snoc]
  · rw [hT, fr_snoc, prs_snoc]; exact ho

set_option maxRecDepth 100000 in
set_option maxHeartbeats 3200000 in
theorem sling_Swing_good (num damp D a v : Int) (vg : Value) (gs : List Int) (w : World) (hR : RI w vg gs) (hE : swingE num damp D a v gs = 0) :
    Calls Try.prog 14 #[.agg #[.int .i64 num, .int .i64 damp, .int .i64 D], .agg #[.int .i64 a, .int .i64 v], vg] w (SwingPost num damp D a v gs w) := by
  obtain ⟨h1, h2, h3, h4, hS⟩ := swingE_zero hE
  have HE := Lib.hid hE
  clear hE
  have W2 : ∀ w1, Below (w.heap.size + 1 + 1) ((w.alloc (.cells #[.int .i64 num, .int .i64 damp, .int .i64 D] 23)).alloc (.cells #[.int .i64 a, .int .i64 v] 24)) w1 → Below w.heap.size w w1 := fun w1 h =>
    (((Below.refl _ _).alloc (Nat.le_refl _) _).alloc (by simp) _).trans (h.mono (by omega))
  have h3' := Lib.hid h3
  clear h3
  obtain ⟨A, c, rfl, hc⟩ := hR.form
  go_enter Try.func14, Try.ntmps14
  go_wp2_with (first
    | (go_at_call 41; refine (sling_Check _ _ _ _).mono ?_; rintro e w1 ⟨rfl, hb⟩; obtain ⟨hc1, hf1, hs1⟩ := bcell hb; have hz1 : w.heap.size < w1.heap.size := (by simp at hs1; omega); have hz2 : w.heap.size + 1 < w1.heap.size := (by simp at hs1; omega); have HR1 := Lib.hid (hR.below (W2 _ (by simpa using hb))); have Hb := Lib.hid hb; clear hb)
    | (go_at_call 42; refine (sling_started _ _ _).mono ?_; rintro e w2 ⟨rfl, hb⟩; rw [h3'.out]; obtain ⟨hc2, hf2, hs2⟩ := bcell hb; have HR2 := Lib.hid (HR1.out.below hb); have Hb2 := Lib.hid hb; clear hb)
    | (go_at_call 43; refine (any44 _ gs _ HR2.out (by omega)).mono ?_; rintro e w3 ⟨rfl, rfl⟩))
  have hB2 := (W2 _ (by simpa using Hb.out)).trans (Hb2.out.mono (by omega))
  have hL : w.heap.size < w2.heap.size := by omega
  have hini : SwAt num damp D a v gs w w2.heap.size 0 (.slice none 0 0) (w2.alloc (.cells #[.int .i64 num, .int .i64 damp, .int .i64 D, .int .i64 a, .int .i64 v, .int .i64 1] 89)) :=
    ⟨hB2.alloc (by omega) _, by omega, by simp, by rw [heap_alloc_new]; simp [runs], World.ownsRow_nil _ _ _ _⟩
  clear hc1 hf1 hs1 hc2 hf2 hs2 Hb Hb2
  go_loopw [6, 36] (fun s6 s36 wr => ∃ k : Nat, s36 = .int .i64 k ∧ k ≤ gs.length ∧ SwAt num damp D a v gs w w2.heap.size k s6 wr) (fun _ s36 _ => gs.length - (intOf s36).toNat)
  case atStart => exact ⟨0, rfl, by omega, hini⟩
  case round =>
    obtain ⟨k, rfl, hk, hst⟩ := hrel
    have Hst := Lib.hid hst
    clear hst
    by_cases hlt : k < gs.length
    · obtain ⟨b, o, c', x, e, hbx, hx, hcell⟩ := (hR.below Hst.out.below).at hlt
      cases e
      have Hx := Lib.hid hx
      clear hx
      have hg := hS.gusts x (List.mem_of_getElem? Hx.out)
      have hT : gs.take (k + 1) = gs.take k ++ [x] := by rw [List.take_add_one, Hx.out]; rfl
      obtain ⟨r1, r2, r3⟩ := runs_bound (hS.take k)
      obtain ⟨q1, q2, q3⟩ := runs_bound (hS.take (k + 1))
      rw [hT, runs_snoc] at q1 q3
      have p1 := pow_small D hS.ok.1 hS.ok.2.1 (gs.take k).length (by simp; omega)
      have p2 := pow_small D hS.ok.1 hS.ok.2.1 (gs.take k ++ [x]).length (by simp; omega)
      rw [← r3] at p1
      rw [← q3] at p2
      clear r3 q3 hT q2
      have Hc4 := tick_block w2.heap.size num damp D _ _ _ x wr Hst.out.blk hS.ok r1 r2 (by omega) (by omega) hg
      obtain ⟨Sk, hSk⟩ : ∃ z, z = runs num damp D (a, v, 1) (gs.take k) := ⟨_, rfl⟩
      rw [← hSk] at q1 p2 Hc4
      have HSk := Lib.hid hSk
      clear hSk
      go_wp2_with fail
      refine Hc4.mono ?_
      rintro e w4 ⟨rfl, ho4, hb4⟩
      have Hb4 := Lib.hid hb4
      clear hb4 Hc4
      go_wp2_with fail
      refine (sling_place w2.heap.size (tk num damp D Sk x).1 (tk num damp D Sk x).2.2 w4 (by simp [blk_cells Hb4.out]) (by simp [blk_cells Hb4.out]) (by omega) (by omega) (by omega) (by omega)).mono ?_
      rintro e w5 ⟨rfl, hb5⟩
      have ho5 := own_below (ho4.own Hst.out.own (by omega)) hb5
      simp only [lowV]
      obtain ⟨i0, hi, hz0, hz1, hz2⟩ := info_parts info24
      have Hb5 := Lib.hid hb5
      clear hb5
      go_wp2_with (at_builtin; refine wpList_append_own _ rfl _ _ 31 rfl (w2.heap.size + 1) 24 i0 (.agg #[.int .i64 0, .int .i64 0]) 2 16 Try.underlying31 hi hz0 hz1 hz2 rfl (by decide) _ k _ rfl (ho5.alloc _) ⟨w5.heap.size, 0, none⟩ 1 1 [.int .i64 (lowP (tk num damp D Sk x).1 (tk num damp D Sk x).2.2).1, .int .i64 (lowP (tk num damp D Sk x).1 (tk num damp D Sk x).2.2).2] rfl rfl ?c1 ?c2 ?c3 ?c4 ?c5 ?_)
      case c1 =>
        intro j u hu
        match j with
        | 0 => simp at hu; subst hu; simp [Addr.add, World.cell?_alloc_new, lowP]
        | 1 => simp at hu; subst hu; simp [Addr.add, World.cell?_alloc_new, lowP]
        | j + 2 => simp at hu
      case c2 => intro u hu; simp at hu; rcases hu with rfl | rfl <;> rfl
      case c3 => unfold maxLen; omega
      case c4 => omega
      case c5 => have := Hb5.out.size; have := ho4.size; have := Hst.out.lt; simp; omega
      intro v6 w6 ho6 hg6 _
      have hn := Lib.hid (Hst.out.next Hx.out ho4 (by rw [← HSk.out]; exact Hb4.out) (Hb5.out.trans ((Below.refl _ _).alloc (Nat.le_refl _) _ |>.mono Hb5.out.size)) hg6 (by rw [← HSk.out]; exact ho6))
      clear ho6 hg6 ho5
      go_wp2
      go_roundw
      case rel => exact ⟨k + 1, by go_num, by omega, hn.out⟩
      case measure => simp [intOf]; omega
    · obtain rfl : k = gs.length := by omega
      go_wp2
      go_ret2
      refine ⟨_, by rw [HE.out]; rfl, Hst.out.below, ?_⟩
      have h := RS.of_own Hst.out.own
      rw [List.take_length] at h
      rw [swingL, if_pos HE.out, fr_len]
      exact h

theorem sling_Swing (num damp D a v : Int) (vg : Value) (gs : List Int) (w : World) (hR : RI w vg gs) (hl : gs.length ≤ 1000000000000000000) :
    Calls Try.prog 14 #[.agg #[.int .i64 num, .int .i64 damp, .int .i64 D], .agg #[.int .i64 a, .int .i64 v], vg] w (SwingPost num damp D a v gs w) := by
  by_cases h : swingE num damp D a v gs = 0
  · exact sling_Swing_good num damp D a v vg gs w hR h
  · exact sling_Swing_fail num damp D a v vg gs w hR hl h

#print axioms sling_Swing
end Go.Proofs.Ytliddinpfgpnfaa
