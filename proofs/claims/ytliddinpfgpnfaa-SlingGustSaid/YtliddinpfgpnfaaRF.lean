/- Contract of the specification's ends. -/
import Derived.Test.YtliddinpfgpnfaaRE
import Derived.Test.YtliddinpfgpnfaaA35
namespace Go.Proofs.Ytliddinpfgpnfaa
open Go Go.RowKit Go.Sort
set_option linter.unusedSimpArgs false
set_option linter.unusedVariables false

def EndsPost (x : Int) (w : World) (e : Ending) (w' : World) : Prop := ∃ vo, e = .returned (.tuple #[vo, .int .i64 x]) ∧ Below w.heap.size w w'

theorem endV_hi {p lo hi : Int} : (decide (0 < p) = true → endV p lo hi true = hi) ∧ (decide (0 < p) = false → endV p lo hi true = lo) ∧ (decide (p < 0) = true → endV p lo hi false = hi) ∧ (decide (p < 0) = false → endV p lo hi false = lo) := by
  refine ⟨fun h => ?_, fun h => ?_, fun h => ?_, fun h => ?_⟩ <;> simp [endV, h]

theorem ends_below {wr : World} {o : Obj} (u v : Value) : Below wr.heap.size wr (((wr.alloc o).setCell ⟨wr.heap.size, 0, none⟩ u).setCell ⟨wr.heap.size, 1, none⟩ v) := (((Below.refl _ _).alloc (Nat.le_refl _) _).setCell (Nat.le_refl _) _).setCell (Nat.le_refl _) _

theorem heap2 (wr : World) (o1 o2 : Obj) : ((wr.alloc o1).alloc o2).heap[wr.heap.size + 1]? = some o2 := by
  have := heap_alloc_new (wr.alloc o1) o2; simpa using this
theorem heap2s (wr : World) (o1 o2 : Obj) (u v : Value) : ((((wr.alloc o1).setCell ⟨wr.heap.size, 0, none⟩ u).setCell ⟨wr.heap.size, 1, none⟩ v).alloc o2).heap[wr.heap.size + 1]? = some o2 := by
  have := heap_alloc_new (((wr.alloc o1).setCell ⟨wr.heap.size, 0, none⟩ u).setCell ⟨wr.heap.size, 1, none⟩ v) o2; simpa [World.setCell] using this

set_option maxRecDepth 100000 in
set_option maxHeartbeats 12800000 in
theorem ref_ends (num damp D gl gh l0 h0 l1 h1 : Int) (vb : Value) (n : Nat) (high : Bool) (w : World) (hR : RP w vb [(l0, h0), (l1, h1)]) (hok : ok3 num damp D) (hn : n ≤ 16) (hS : SmallS (l0, h0) (l1, h1) (gl, gh)) :
    Calls Try.prog 95 #[.agg #[.int .i64 num, .int .i64 damp, .int .i64 D], vb, .agg #[.int .i64 gl, .int .i64 gh], .int .i64 n, .bool high] w (EndsPost (mostN num damp D (l0, h0) (l1, h1) (gl, gh) n high) w) := by
  obtain ⟨i0, hi0, hz0, hz1, hz2⟩ := info_parts info3
  obtain ⟨bb, ob, cb, rfl, hcb, hbb, qa, qb, qc, qd⟩ := hR.open2
  have B2 : Below w.heap.size w (nsW num damp D gl gh w) := nsW_below num damp D gl gh w
  have HRB := Lib.hid hR
  clear qa qb qc qd hR
  go_enter Try.func95, Try.ntmps95
  go_wp2_with (go_at_call 107; (with_reducible refine (ref_weights num damp D n _ hok hn).mono ?_); rintro e w1 ⟨vw, rfl, hb1, hw1⟩)
  have G1 : Below (w.heap.size + 1 + 1) (nsW num damp D gl gh w) w1 := by simpa using hb1
  have HVW := Lib.hid hw1
  obtain ⟨Aw, cw, rfl, hcw⟩ := hw1.formN (partsL_len num damp D n)
  clear hw1 hb1
  have s1 : w.heap.size + 1 + 1 ≤ w1.heap.size := by have := G1.size; simpa using this
  go_wp2_with fail
  go_loopw [13, 14, 15] (fun s13 s14 s15 wr => ∃ (k : Nat) (acc : List Int), s15 = .int .i64 k ∧ k ≤ n + 2 ∧ acc.length = k ∧ s14 = .int .i64 (sumTo k (termN num damp D (l0, h0) (l1, h1) (gl, gh) n high)) ∧ Coll w1 w1.heap.size acc s13 wr) (fun _ _ s15 _ => n + 2 - (intOf s15).toNat)
  case atStart => exact ⟨0, [], rfl, by omega, rfl, rfl, Below.refl _ _, Nat.le_refl _, Nat.le_refl _, World.ownsRow_nil _ _ _ _⟩
  case round =>
    obtain ⟨k, acc, rfl, hk, hacc, rfl, hst⟩ := hrel
    have Hst := Lib.hid hst
    have HAcc := Lib.hid hacc
    clear hst hacc
    have GR := G1.trans (Hst.out.below.mono s1)
    have ER := B2.trans (GR.mono (by omega))
    by_cases hkn : k < n + 2
    · obtain ⟨bv, ov, cv', e, hbv, hcell⟩ := (HVW.out.below Hst.out.below).atN (partsL_len num damp D n) (partsL_at hkn)
      cases e
      obtain ⟨⟨q0, q1, q2⟩, ⟨q3, q4⟩, q5⟩ := nsW_cells GR
      clear q0 q1 q2
      have i1 : (k : Int) < (n : Int) + 2 := by omega
      have i2 : (0 : Int) ≤ (k : Int) := by omega
      have t1 := part_abs hok hn hkn
      have t2 := hS k
      have t3 := mul_abs t1 t2.1
      have t3' := mul_abs t1 t2.2
      have t4 := sum_abs hok hS (k := k) hn (by omega) high
      have HT := Lib.hid (show sumTo (k + 1) (termN num damp D (l0, h0) (l1, h1) (gl, gh) n high) = sumTo k (termN num damp D (l0, h0) (l1, h1) (gl, gh) n high) + partN num damp D n k * endV (partN num damp D n k) (spanAt (l0, h0) (l1, h1) (gl, gh) k).1 (spanAt (l0, h0) (l1, h1) (gl, gh) k).2 high from rfl)
      obtain ⟨sp, hsp⟩ : ∃ z, z = spanAt (l0, h0) (l1, h1) (gl, gh) k := ⟨_, rfl⟩
      rw [← hsp] at t2 t3 t3' HT
      have hPk := partsL_at (num := num) (damp := damp) (D := D) hkn
      generalize partN num damp D n k = P at t1 t3 t3' HT hcell hPk
      have HPk := Lib.hid hPk
      clear hPk
      generalize sumTo k (termN num damp D (l0, h0) (l1, h1) (gl, gh) n high) = S0 at t4 HT
      obtain ⟨sl, sh⟩ := sp
      replace HT := HT.out
      dsimp only at t2 t3 t3' HT
      replace HT := Lib.hid HT
      have t5 : IntKind.i64.wrap (P * sl) = P * sl := IntWalk.i64_in _ (by omega)
      have t6 : IntKind.i64.wrap (S0 + P * sl) = S0 + P * sl := IntWalk.i64_in _ (by omega)
      have t7 : IntKind.i64.wrap (P * sh) = P * sh := IntWalk.i64_in _ (by omega)
      have t8 : IntKind.i64.wrap (S0 + P * sh) = S0 + P * sh := IntWalk.i64_in _ (by omega)
      clear t1 t2 t3 t3' t4
      have HO := Lib.hid (by have h := Hst.out.own; rw [HAcc.out] at h; exact h)
      rcases Nat.lt_or_ge k 2 with h2 | h2
      · have d2 : (k : Int) < 2 := by omega
        obtain ⟨b', o', c', x', y', e', hb', hx', r0, r1⟩ := (HRB.out.below ER).at (k := k) h2
        cases e'
        have hxy : sl = x' ∧ sh = y' := by
          match k, h2 with
          | 0, _ => simp [spanAt] at hsp hx'; omega
          | 1, _ => simp [spanAt] at hsp hx'; omega
        obtain ⟨rfl, rfl⟩ := hxy
        clear hx' hsp
        cases high
        · cases hd : decide (P < 0)
          · have HEv := Lib.hid ((endV_hi (p := P) (lo := sl) (hi := sh)).2.2.2 hd)
            go_wp2_with (at_builtin; refine wpList_append_own _ rfl _ _ 25 rfl w1.heap.size 3 i0 (.int .i64 0) 1 8 Try.underlying25 hi0 hz0 hz1 hz2 rfl (by decide) _ k _ rfl ((own_below HO.out (by first | exact (Below.refl _ _).alloc (Nat.le_refl _) _ | exact ends_below _ _)).alloc _) ⟨wr.heap.size + 1, 0, none⟩ 1 1 [.int .i64 sl] rfl rfl ?k1_1 ?k1_2 ?k1_3 ?k1_4 ?k1_5 ?_)
            case k1_1 => exact World.news_of_block (cs := #[.int .i64 sl]) (t := 3) (fr := (0, 0)) (by first | exact heap2 wr _ _ | exact heap2s wr _ _ _ _)
            case k1_2 => first | rfl | (intro u hu; simp at hu; subst hu; rfl)
            case k1_3 => first | omega | (unfold maxLen; omega)
            case k1_4 => omega
            case k1_5 => have := Hst.out.bl; first | omega | (simp [World.setCell]; omega)
            intro v6 w6 ho6 hg6 _
            have hn6 := Lib.hid ((Hst.out.quiet (by first | exact (Below.refl _ _).alloc (Nat.le_refl _) _ | exact ends_below _ _)).next sl _ hg6 (by rw [HAcc.out]; exact ho6))
            clear ho6 hg6
            obtain ⟨b7, o7, c7, e7, hb7, hcell7⟩ := (HVW.out.below hn6.out.below).atN (partsL_len num damp D n) HPk.out
            cases e7
            go_wp2_with fail
            go_roundw
            case rel => exact ⟨k + 1, _, by go_num, by omega, by rw [List.length_append, HAcc.out]; rfl, by rw [HT.out, HEv.out], hn6.out⟩
            case measure => simp [intOf]; omega
          · have HEv := Lib.hid ((endV_hi (p := P) (lo := sl) (hi := sh)).2.2.1 hd)
            go_wp2_with (at_builtin; refine wpList_append_own _ rfl _ _ 25 rfl w1.heap.size 3 i0 (.int .i64 0) 1 8 Try.underlying25 hi0 hz0 hz1 hz2 rfl (by decide) _ k _ rfl ((own_below HO.out (by first | exact (Below.refl _ _).alloc (Nat.le_refl _) _ | exact ends_below _ _)).alloc _) ⟨wr.heap.size + 1, 0, none⟩ 1 1 [.int .i64 sh] rfl rfl ?k2_1 ?k2_2 ?k2_3 ?k2_4 ?k2_5 ?_)
            case k2_1 => exact World.news_of_block (cs := #[.int .i64 sh]) (t := 3) (fr := (0, 0)) (by first | exact heap2 wr _ _ | exact heap2s wr _ _ _ _)
            case k2_2 => first | rfl | (intro u hu; simp at hu; subst hu; rfl)
            case k2_3 => first | omega | (unfold maxLen; omega)
            case k2_4 => omega
            case k2_5 => have := Hst.out.bl; first | omega | (simp [World.setCell]; omega)
            intro v6 w6 ho6 hg6 _
            have hn6 := Lib.hid ((Hst.out.quiet (by first | exact (Below.refl _ _).alloc (Nat.le_refl _) _ | exact ends_below _ _)).next sh _ hg6 (by rw [HAcc.out]; exact ho6))
            clear ho6 hg6
            obtain ⟨b7, o7, c7, e7, hb7, hcell7⟩ := (HVW.out.below hn6.out.below).atN (partsL_len num damp D n) HPk.out
            cases e7
            go_wp2_with fail
            go_roundw
            case rel => exact ⟨k + 1, _, by go_num, by omega, by rw [List.length_append, HAcc.out]; rfl, by rw [HT.out, HEv.out], hn6.out⟩
            case measure => simp [intOf]; omega
        · cases hd : decide (0 < P)
          · have HEv := Lib.hid ((endV_hi (p := P) (lo := sl) (hi := sh)).2.1 hd)
            go_wp2_with (at_builtin; refine wpList_append_own _ rfl _ _ 25 rfl w1.heap.size 3 i0 (.int .i64 0) 1 8 Try.underlying25 hi0 hz0 hz1 hz2 rfl (by decide) _ k _ rfl ((own_below HO.out (by first | exact (Below.refl _ _).alloc (Nat.le_refl _) _ | exact ends_below _ _)).alloc _) ⟨wr.heap.size + 1, 0, none⟩ 1 1 [.int .i64 sl] rfl rfl ?k3_1 ?k3_2 ?k3_3 ?k3_4 ?k3_5 ?_)
            case k3_1 => exact World.news_of_block (cs := #[.int .i64 sl]) (t := 3) (fr := (0, 0)) (by first | exact heap2 wr _ _ | exact heap2s wr _ _ _ _)
            case k3_2 => first | rfl | (intro u hu; simp at hu; subst hu; rfl)
            case k3_3 => first | omega | (unfold maxLen; omega)
            case k3_4 => omega
            case k3_5 => have := Hst.out.bl; first | omega | (simp [World.setCell]; omega)
            intro v6 w6 ho6 hg6 _
            have hn6 := Lib.hid ((Hst.out.quiet (by first | exact (Below.refl _ _).alloc (Nat.le_refl _) _ | exact ends_below _ _)).next sl _ hg6 (by rw [HAcc.out]; exact ho6))
            clear ho6 hg6
            obtain ⟨b7, o7, c7, e7, hb7, hcell7⟩ := (HVW.out.below hn6.out.below).atN (partsL_len num damp D n) HPk.out
            cases e7
            go_wp2_with fail
            go_roundw
            case rel => exact ⟨k + 1, _, by go_num, by omega, by rw [List.length_append, HAcc.out]; rfl, by rw [HT.out, HEv.out], hn6.out⟩
            case measure => simp [intOf]; omega
          · have HEv := Lib.hid ((endV_hi (p := P) (lo := sl) (hi := sh)).1 hd)
            go_wp2_with (at_builtin; refine wpList_append_own _ rfl _ _ 25 rfl w1.heap.size 3 i0 (.int .i64 0) 1 8 Try.underlying25 hi0 hz0 hz1 hz2 rfl (by decide) _ k _ rfl ((own_below HO.out (by first | exact (Below.refl _ _).alloc (Nat.le_refl _) _ | exact ends_below _ _)).alloc _) ⟨wr.heap.size + 1, 0, none⟩ 1 1 [.int .i64 sh] rfl rfl ?k4_1 ?k4_2 ?k4_3 ?k4_4 ?k4_5 ?_)
            case k4_1 => exact World.news_of_block (cs := #[.int .i64 sh]) (t := 3) (fr := (0, 0)) (by first | exact heap2 wr _ _ | exact heap2s wr _ _ _ _)
            case k4_2 => first | rfl | (intro u hu; simp at hu; subst hu; rfl)
            case k4_3 => first | omega | (unfold maxLen; omega)
            case k4_4 => omega
            case k4_5 => have := Hst.out.bl; first | omega | (simp [World.setCell]; omega)
            intro v6 w6 ho6 hg6 _
            have hn6 := Lib.hid ((Hst.out.quiet (by first | exact (Below.refl _ _).alloc (Nat.le_refl _) _ | exact ends_below _ _)).next sh _ hg6 (by rw [HAcc.out]; exact ho6))
            clear ho6 hg6
            obtain ⟨b7, o7, c7, e7, hb7, hcell7⟩ := (HVW.out.below hn6.out.below).atN (partsL_len num damp D n) HPk.out
            cases e7
            go_wp2_with fail
            go_roundw
            case rel => exact ⟨k + 1, _, by go_num, by omega, by rw [List.length_append, HAcc.out]; rfl, by rw [HT.out, HEv.out], hn6.out⟩
            case measure => simp [intOf]; omega
      · have d2 : ¬ (k : Int) < 2 := by omega
        have hxy : sl = gl ∧ sh = gh := by
          have h := hsp
          simp only [spanAt] at h
          rw [if_neg (by omega), if_neg (by omega)] at h
          simp at h
          omega
        obtain ⟨rfl, rfl⟩ := hxy
        clear hsp
        cases high
        · cases hd : decide (P < 0)
          · have HEv := Lib.hid ((endV_hi (p := P) (lo := sl) (hi := sh)).2.2.2 hd)
            go_wp2_with (at_builtin; refine wpList_append_own _ rfl _ _ 25 rfl w1.heap.size 3 i0 (.int .i64 0) 1 8 Try.underlying25 hi0 hz0 hz1 hz2 rfl (by decide) _ k _ rfl ((own_below HO.out (by first | exact (Below.refl _ _).alloc (Nat.le_refl _) _ | exact ends_below _ _)).alloc _) ⟨wr.heap.size + 1, 0, none⟩ 1 1 [.int .i64 sl] rfl rfl ?k5_1 ?k5_2 ?k5_3 ?k5_4 ?k5_5 ?_)
            case k5_2 => first | rfl | (intro u hu; simp at hu; subst hu; rfl)
            case k5_3 => first | omega | (unfold maxLen; omega)
            case k5_4 => omega
            case k5_5 => have := Hst.out.bl; first | omega | (simp [World.setCell]; omega)
            intro v6 w6 ho6 hg6 _
            have hn6 := Lib.hid ((Hst.out.quiet (by first | exact (Below.refl _ _).alloc (Nat.le_refl _) _ | exact ends_below _ _)).next sl _ hg6 (by rw [HAcc.out]; exact ho6))
            clear ho6 hg6
            obtain ⟨b7, o7, c7, e7, hb7, hcell7⟩ := (HVW.out.below hn6.out.below).atN (partsL_len num damp D n) HPk.out
            cases e7
            go_wp2_with fail
            go_roundw
            case rel => exact ⟨k + 1, _, by go_num, by omega, by rw [List.length_append, HAcc.out]; rfl, by rw [HT.out, HEv.out], hn6.out⟩
            case measure => simp [intOf]; omega
          · have HEv := Lib.hid ((endV_hi (p := P) (lo := sl) (hi := sh)).2.2.1 hd)
            go_wp2_with (at_builtin; refine wpList_append_own _ rfl _ _ 25 rfl w1.heap.size 3 i0 (.int .i64 0) 1 8 Try.underlying25 hi0 hz0 hz1 hz2 rfl (by decide) _ k _ rfl ((own_below HO.out (by first | exact (Below.refl _ _).alloc (Nat.le_refl _) _ | exact ends_below _ _)).alloc _) ⟨wr.heap.size + 1, 0, none⟩ 1 1 [.int .i64 sh] rfl rfl ?k6_1 ?k6_2 ?k6_3 ?k6_4 ?k6_5 ?_)
            case k6_2 => first | rfl | (intro u hu; simp at hu; subst hu; rfl)
            case k6_3 => first | omega | (unfold maxLen; omega)
            case k6_4 => omega
            case k6_5 => have := Hst.out.bl; first | omega | (simp [World.setCell]; omega)
            intro v6 w6 ho6 hg6 _
            have hn6 := Lib.hid ((Hst.out.quiet (by first | exact (Below.refl _ _).alloc (Nat.le_refl _) _ | exact ends_below _ _)).next sh _ hg6 (by rw [HAcc.out]; exact ho6))
            clear ho6 hg6
            obtain ⟨b7, o7, c7, e7, hb7, hcell7⟩ := (HVW.out.below hn6.out.below).atN (partsL_len num damp D n) HPk.out
            cases e7
            go_wp2_with fail
            go_roundw
            case rel => exact ⟨k + 1, _, by go_num, by omega, by rw [List.length_append, HAcc.out]; rfl, by rw [HT.out, HEv.out], hn6.out⟩
            case measure => simp [intOf]; omega
        · cases hd : decide (0 < P)
          · have HEv := Lib.hid ((endV_hi (p := P) (lo := sl) (hi := sh)).2.1 hd)
            go_wp2_with (at_builtin; refine wpList_append_own _ rfl _ _ 25 rfl w1.heap.size 3 i0 (.int .i64 0) 1 8 Try.underlying25 hi0 hz0 hz1 hz2 rfl (by decide) _ k _ rfl ((own_below HO.out (by first | exact (Below.refl _ _).alloc (Nat.le_refl _) _ | exact ends_below _ _)).alloc _) ⟨wr.heap.size + 1, 0, none⟩ 1 1 [.int .i64 sl] rfl rfl ?k7_1 ?k7_2 ?k7_3 ?k7_4 ?k7_5 ?_)
            case k7_2 => first | rfl | (intro u hu; simp at hu; subst hu; rfl)
            case k7_3 => first | omega | (unfold maxLen; omega)
            case k7_4 => omega
            case k7_5 => have := Hst.out.bl; first | omega | (simp [World.setCell]; omega)
            intro v6 w6 ho6 hg6 _
            have hn6 := Lib.hid ((Hst.out.quiet (by first | exact (Below.refl _ _).alloc (Nat.le_refl _) _ | exact ends_below _ _)).next sl _ hg6 (by rw [HAcc.out]; exact ho6))
            clear ho6 hg6
            obtain ⟨b7, o7, c7, e7, hb7, hcell7⟩ := (HVW.out.below hn6.out.below).atN (partsL_len num damp D n) HPk.out
            cases e7
            go_wp2_with fail
            go_roundw
            case rel => exact ⟨k + 1, _, by go_num, by omega, by rw [List.length_append, HAcc.out]; rfl, by rw [HT.out, HEv.out], hn6.out⟩
            case measure => simp [intOf]; omega
          · have HEv := Lib.hid ((endV_hi (p := P) (lo := sl) (hi := sh)).1 hd)
            go_wp2_with (at_builtin; refine wpList_append_own _ rfl _ _ 25 rfl w1.heap.size 3 i0 (.int .i64 0) 1 8 Try.underlying25 hi0 hz0 hz1 hz2 rfl (by decide) _ k _ rfl ((own_below HO.out (by first | exact (Below.refl _ _).alloc (Nat.le_refl _) _ | exact ends_below _ _)).alloc _) ⟨wr.heap.size + 1, 0, none⟩ 1 1 [.int .i64 sh] rfl rfl ?k8_1 ?k8_2 ?k8_3 ?k8_4 ?k8_5 ?_)
            case k8_2 => first | rfl | (intro u hu; simp at hu; subst hu; rfl)
            case k8_3 => first | omega | (unfold maxLen; omega)
            case k8_4 => omega
            case k8_5 => have := Hst.out.bl; first | omega | (simp [World.setCell]; omega)
            intro v6 w6 ho6 hg6 _
            have hn6 := Lib.hid ((Hst.out.quiet (by first | exact (Below.refl _ _).alloc (Nat.le_refl _) _ | exact ends_below _ _)).next sh _ hg6 (by rw [HAcc.out]; exact ho6))
            clear ho6 hg6
            obtain ⟨b7, o7, c7, e7, hb7, hcell7⟩ := (HVW.out.below hn6.out.below).atN (partsL_len num damp D n) HPk.out
            cases e7
            go_wp2_with fail
            go_roundw
            case rel => exact ⟨k + 1, _, by go_num, by omega, by rw [List.length_append, HAcc.out]; rfl, by rw [HT.out, HEv.out], hn6.out⟩
            case measure => simp [intOf]; omega
    · obtain rfl : k = n + 2 := by omega
      go_wp2
      go_ret2
      exact ⟨_, rfl, ER⟩

end Go.Proofs.Ytliddinpfgpnfaa
