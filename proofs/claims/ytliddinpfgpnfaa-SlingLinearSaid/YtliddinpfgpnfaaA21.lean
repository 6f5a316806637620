/- Contract: the law SlingLinear. -/
import Derived.Test.YtliddinpfgpnfaaA20
import Derived.Deep.RegionHeld3
import Derived.Test.YtliddinpfgpnfaaL5
import Derived.Deep.CutRange
import Derived.Deep.RegionLaw
import Derived.Deep.DrawnRows
namespace Go.Proofs.Ytliddinpfgpnfaa
open Go Go.RowKit Go.Sort
set_option linter.unusedSimpArgs false
set_option linter.unusedVariables false
attribute [local go_sem ↓] Go.wp_at_zero Go.wp_at_succ

/-- The two swings that the law makes, with k gusts each. -/
def LinAt (B M Z : Nat) (b0 b1 m0 m1 : Int) (zb zm : List Int) (W : World) (k : Nat) (w : World) : Prop :=
  ∃ vb vm, LinS B M Z b0 b1 m0 m1 zb zm W k k vb vm w

abbrev linW (num damp D a v n lo hi a' v' n' lo' hi' : Int) (vg vh : Value) (w : World) : World :=
  ((w.alloc (.cells #[.int .i64 num, .int .i64 damp, .int .i64 D] 23)).alloc (.cells #[.int .i64 a, .int .i64 v, vg, .int .i64 n, .int .i64 lo, .int .i64 hi] 29)).alloc (.cells #[.int .i64 a', .int .i64 v', vh, .int .i64 n', .int .i64 lo', .int .i64 hi'] 29)

theorem lin_start {W : World} {Z : Nat} {b0 b1 m0 m1 : Int} {zb zm : List Int} (hZ : Z = W.heap.size + 2) :
    LinAt W.heap.size (W.heap.size + 1) Z b0 b1 m0 m1 zb zm W 0 ((W.alloc (.cells #[.int .i64 b0, .int .i64 b1, .slice none 0 0, .int .i64 0, .int .i64 0, .int .i64 0] 29)).alloc (.cells #[.int .i64 m0, .int .i64 m1, .slice none 0 0, .int .i64 0, .int .i64 0, .int .i64 0] 29)).drew ∧
    LinAt (W.heap.size + 1) W.heap.size Z b0 b1 m0 m1 zb zm W 0 ((W.alloc (.cells #[.int .i64 m0, .int .i64 m1, .slice none 0 0, .int .i64 0, .int .i64 0, .int .i64 0] 29)).alloc (.cells #[.int .i64 b0, .int .i64 b1, .slice none 0 0, .int .i64 0, .int .i64 0, .int .i64 0] 29)).drew := by
  have e : ∀ (o1 o2 : Obj), ((W.alloc o1).alloc o2).drew.heap[W.heap.size]? = some o1 ∧ ((W.alloc o1).alloc o2).drew.heap[W.heap.size + 1]? = some o2 := fun o1 o2 => by
    rw [drew_heap]
    refine ⟨heap_alloc_old (heap_alloc_new _ _), ?_⟩
    rw [show W.heap.size + 1 = (W.alloc o1).heap.size by simp]
    exact heap_alloc_new _ _
  constructor
  · refine ⟨.slice none 0 0, .slice none 0 0, ⟨(((Below.refl _ _).alloc (Nat.le_refl _) _).alloc (by simp) _).drew, by simp [hZ], (e _ _).1, (e _ _).2, ?_, ?_, fun g h => by cases h⟩⟩
    · exact ⟨rfl, Or.inl ⟨rfl, rfl⟩⟩
    · exact ⟨rfl, Or.inl ⟨rfl, rfl⟩⟩
  · refine ⟨.slice none 0 0, .slice none 0 0, ⟨(((Below.refl _ _).alloc (Nat.le_refl _) _).alloc (by simp) _).drew, by simp [hZ], (e _ _).2, (e _ _).1, ?_, ?_, fun g h => by cases h⟩⟩
    · exact ⟨rfl, Or.inl ⟨rfl, rfl⟩⟩
    · exact ⟨rfl, Or.inl ⟨rfl, rfl⟩⟩

theorem arg_cells (w : World) (o0 : Obj) (c1 c2 : Array Value) (T1 T2 : TypeId) : (((w.alloc o0).alloc (.cells c1 T1)).alloc (.cells c2 T2)).heap[w.heap.size + 1]? = some (.cells c1 T1 (0, 0)) ∧ (((w.alloc o0).alloc (.cells c1 T1)).alloc (.cells c2 T2)).heap[w.heap.size + 1 + 1]? = some (.cells c2 T2 (0, 0)) := by
  constructor
  · refine heap_alloc_old (w := (w.alloc o0).alloc (.cells c1 T1)) ?_
    rw [show w.heap.size + 1 = (w.alloc o0).heap.size by simp]
    exact heap_alloc_new _ _
  · rw [show w.heap.size + 1 + 1 = ((w.alloc o0).alloc (.cells c1 T1)).heap.size by simp]
    exact heap_alloc_new _ _

set_option maxRecDepth 100000 in
set_option maxHeartbeats 12800000 in
theorem law_Linear (num damp D a v n lo hi a' v' n' lo' hi' : Int) (vg vh : Value) (gs hs : List Int) (w : World) (hG : RI w vg gs) (hH : RI w vh hs) (hlg : gs.length * 8 ≤ 140737488355328) (hlh : hs.length * 8 ≤ 140737488355328) :
    Calls Try.prog 3 #[.agg #[.int .i64 num, .int .i64 damp, .int .i64 D], .agg #[.int .i64 a, .int .i64 v, vg, .int .i64 n, .int .i64 lo, .int .i64 hi], .agg #[.int .i64 a', .int .i64 v', vh, .int .i64 n', .int .i64 lo', .int .i64 hi']] w (AllBelow (.bool true) w) := by
  have B3 : Below w.heap.size w (linW num damp D a v n lo hi a' v' n' lo' hi' vg vh w) := (((Below.refl _ _).alloc (Nat.le_refl _) _).alloc (by simp) _).alloc (by simp; omega) _
  obtain ⟨A, c, rfl, hc⟩ := hG.form
  obtain ⟨A', c', rfl, hc'⟩ := hH.form
  by_cases hl : gs.length = hs.length
  · have hl2 : ((gs.length : Int) != (hs.length : Int)) = false := by rw [hl]; simp
    have HL := Lib.hid hl
    clear hl
    go_enter Try.func3, Try.ntmps3
    go_upto_region 3 with fail
    go_cut [7, 8] (fun s7 s8 wx => ∃ B M : Nat, s7 = .pointer (some ⟨B, 0, none⟩) ∧ s8 = .pointer (some ⟨M, 0, none⟩) ∧ w.heap.size + 3 ≤ B ∧ w.heap.size + 3 ≤ M ∧ B < w.heap.size + 5 ∧ M < w.heap.size + 5 ∧ B ≠ M ∧
      LinAt B M (w.heap.size + 5) (IntKind.i64.wrap (a + a')) (IntKind.i64.wrap (v + v')) (IntKind.i64.wrap (-a)) (IntKind.i64.wrap (-v)) (List.zipWith (fun x y => IntKind.i64.wrap (x + y)) gs hs) (gs.map fun x => IntKind.i64.wrap (-x)) (linW num damp D a v n lo hi a' v' n' lo' hi' (.slice A gs.length c) (.slice A' hs.length c') w) 0 wx)
    case first =>
      as_aux_lemma =>
      obtain ⟨q1, q2⟩ := arg_cells w (.cells #[.int .i64 num, .int .i64 damp, .int .i64 D] 23) #[.int .i64 a, .int .i64 v, .slice A gs.length c, .int .i64 n, .int .i64 lo, .int .i64 hi] #[.int .i64 a', .int .i64 v', .slice A' hs.length c', .int .i64 n', .int .i64 lo', .int .i64 hi'] 29 29
      have k0 := (blk_cells q1 0).1
      have k1 := (blk_cells q1 1).1
      have k2 := (blk_cells q2 0).1
      have k3 := (blk_cells q2 1).1
      simp only [Array.getElem?_eq_getElem, List.size_toArray, List.length_cons, List.length_nil, Nat.reduceAdd, Nat.reduceLT, List.getElem_toArray, List.getElem_cons_zero, List.getElem_cons_succ] at k0 k1 k2 k3
      have zW : (linW num damp D a v n lo hi a' v' n' lo' hi' (.slice A gs.length c) (.slice A' hs.length c') w).heap.size = w.heap.size + 1 + 1 + 1 := by simp
      change (linW num damp D a v n lo hi a' v' n' lo' hi' (.slice A gs.length c) (.slice A' hs.length c') w).heap[_]? = _ at q1 q2
      change (linW num damp D a v n lo hi a' v' n' lo' hi' (.slice A gs.length c) (.slice A' hs.length c') w).cell? _ = _ at k0 k1 k2 k3
      change Code.wp _ _ _ _ (linW num damp D a v n lo hi a' v' n' lo' hi' (.slice A gs.length c) (.slice A' hs.length c') w)
      generalize linW num damp D a v n lo hi a' v' n' lo' hi' (.slice A gs.length c) (.slice A' hs.length c') w = W at *
      go_region_held3 (fun w' => w'.cell? ⟨w.heap.size + 1, 0, none⟩ = some (.int .i64 a) ∧ w'.cell? ⟨w.heap.size + 1, 1, none⟩ = some (.int .i64 v) ∧ w'.cell? ⟨w.heap.size + 1 + 1, 0, none⟩ = some (.int .i64 a') ∧ w'.cell? ⟨w.heap.size + 1 + 1, 1, none⟩ = some (.int .i64 v')) (go_keep) (fail)
      all_goals
        go_wp2_with fail
        go_meet
        case rel =>
          have L1 := (lin_start (W := W) (Z := w.heap.size + 5) (b0 := IntKind.i64.wrap (a + a')) (b1 := IntKind.i64.wrap (v + v')) (m0 := IntKind.i64.wrap (-a)) (m1 := IntKind.i64.wrap (-v)) (zb := List.zipWith (fun x y => IntKind.i64.wrap (x + y)) gs hs) (zm := gs.map fun x => IntKind.i64.wrap (-x)) (by omega))
          simp only [zW] at L1
          first
            | exact ⟨w.heap.size + 1 + 1 + 1, w.heap.size + 1 + 1 + 1 + 1, rfl, rfl, by omega, by omega, by omega, by omega, by omega, L1.1⟩
            | exact ⟨w.heap.size + 1 + 1 + 1 + 1, w.heap.size + 1 + 1 + 1, rfl, rfl, by omega, by omega, by omega, by omega, by omega, L1.2⟩
    case rest =>
      obtain ⟨B, M, rfl, rfl, hB0, hM0, hB1, hM1, hBM, hst⟩ := hcut
      obtain ⟨i0, hi0, hz0, hz1, hz2⟩ := info_parts info3
      have q := arg_cells w (.cells #[.int .i64 num, .int .i64 damp, .int .i64 D] 23) #[.int .i64 a, .int .i64 v, .slice A gs.length c, .int .i64 n, .int .i64 lo, .int .i64 hi] #[.int .i64 a', .int .i64 v', .slice A' hs.length c', .int .i64 n', .int .i64 lo', .int .i64 hi'] 29 29
      change (linW num damp D a v n lo hi a' v' n' lo' hi' (.slice A gs.length c) (.slice A' hs.length c') w).heap[_]? = _ ∧ (linW num damp D a v n lo hi a' v' n' lo' hi' (.slice A gs.length c) (.slice A' hs.length c') w).heap[_]? = _ at q
      have zW : (linW num damp D a v n lo hi a' v' n' lo' hi' (.slice A gs.length c) (.slice A' hs.length c') w).heap.size = w.heap.size + 1 + 1 + 1 := by simp
      have qs : (linW num damp D a v n lo hi a' v' n' lo' hi' (.slice A gs.length c) (.slice A' hs.length c') w).heap[w.heap.size]? = some (.cells #[.int .i64 num, .int .i64 damp, .int .i64 D] 23 (0, 0)) := heap_alloc_old (heap_alloc_old (heap_alloc_new _ _))
      generalize linW num damp D a v n lo hi a' v' n' lo' hi' (.slice A gs.length c) (.slice A' hs.length c') w = W at *
      obtain ⟨q1, q2⟩ := q
      have LB : LinB B M (w.heap.size + 5) W := ⟨by omega, by omega, by omega, by omega, hBM⟩
      have PM := Lib.hid (@lin_minus num damp D a v gs)
      have PB := Lib.hid (@lin_both num damp D a v a' v' gs hs)
      generalize hzb : List.zipWith (fun x y => IntKind.i64.wrap (x + y)) gs hs = zb at *
      generalize hzm : (gs.map fun x => IntKind.i64.wrap (-x)) = zm at *
      have HB := Lib.hid hzb.symm
      have HM := Lib.hid hzm.symm
      clear hzb hzm
      generalize IntKind.i64.wrap (a + a') = sa at *
      generalize IntKind.i64.wrap (v + v') = sv at *
      generalize IntKind.i64.wrap (-a) = ma at *
      generalize IntKind.i64.wrap (-v) = mv at *
      go_wp2_with fail
      go_loopw [9] (fun s9 wr => ∃ k : Nat, s9 = .int .i64 k ∧ k ≤ gs.length ∧ LinAt B M (w.heap.size + 5) sa sv ma mv zb zm W k wr) (fun s9 _ => gs.length - (intOf s9).toNat)
      case atStart => exact ⟨0, rfl, by omega, hst⟩
      case round =>
        as_aux_lemma =>
        obtain ⟨k, rfl, hk, vb, vm, hS⟩ := hrel
        have HS := Lib.hid hS
        have r1 := (hS.below.block (w.heap.size + 1) (by omega)).trans q1
        have r2 := (hS.below.block (w.heap.size + 1 + 1) (by omega)).trans q2
        have x2 := (blk_cells r1 2).1
        have y2 := (blk_cells r2 2).1
        have e2 := (blk_cells hS.bB 2).1
        have f2 := (blk_cells hS.bM 2).1
        have e2f := (blk_cells hS.bB 2).2
        have f2f := (blk_cells hS.bM 2).2
        simp only [Array.getElem?_eq_getElem, List.size_toArray, List.length_cons, List.length_nil, Nat.reduceAdd, Nat.reduceLT, List.getElem_toArray, List.getElem_cons_zero, List.getElem_cons_succ] at x2 y2 e2 f2
        have EW := B3.trans (hS.below.mono B3.size)
        have zr := hS.zlt
        have nb : ∀ r, r < w.heap.size + 5 → vb.ownBlock ≠ some r := fun r hr e => by have := (own_lt hS.oB e).1; omega
        have nm : ∀ r, r < w.heap.size + 5 → vm.ownBlock ≠ some r := fun r hr e => by have := (own_lt hS.oM e).1; omega
        clear hS
        by_cases hlt : k < gs.length
        · as_aux_lemma =>
          have hlt' : k < hs.length := by have := HL.out; omega
          obtain ⟨b, o, cc, x, e, hb, hx, hcell⟩ := hG.at hlt
          obtain ⟨b', o', cc', y, e', hb', hy, hcell'⟩ := hH.at hlt'
          cases e
          cases e'
          have hk0 : (0 : Int) ≤ (k : Int) := Int.natCast_nonneg _
          have hk1 : (k : Int) < (gs.length : Int) := by omega
          have hk2 : (k : Int) < (hs.length : Int) := by omega
          have gx : wr.cell? ⟨b, o + k, none⟩ = some (.int .i64 x) := (EW.cell (p := ⟨b, o + k, none⟩) hb).trans hcell
          have gy : wr.cell? ⟨b', o' + k, none⟩ = some (.int .i64 y) := (EW.cell (p := ⟨b', o' + k, none⟩) hb').trans hcell'
          have hzb : zb[k]? = some (IntKind.i64.wrap (x + y)) := by rw [HB.out, List.getElem?_zipWith, hx, hy]
          have hzm : zm[k]? = some (IntKind.i64.wrap (-x)) := by rw [HM.out, List.getElem?_map, hx]; rfl
          have HzB := Lib.hid hzb
          have HzM := Lib.hid hzm
          have HXC := Lib.hid hcell
          clear hzb hzm hx hy hcell hcell'
          have wz := EW.size
          have u1 : b < wr.heap.size := by omega
          have u2 : b' < wr.heap.size := by omega
          have u3 : B < wr.heap.size := by omega
          have u4 : M < wr.heap.size := by omega
          have hsmall : k + 1 ≤ maxLen := by unfold maxLen; omega
          have ff : ∀ o : Obj, (wr.alloc o).drew.frozen? ⟨B, 2, none⟩ = false := fun o => (((Below.refl wr.heap.size wr).alloc (Nat.le_refl _) o).drew.frozen (p := ⟨B, 2, none⟩) u3).trans e2f
          have n1 := nb B (by omega)
          have n2 := nb (w.heap.size + 1) (by omega)
          have n3 := nb (w.heap.size + 1 + 1) (by omega)
          have n4 := nb b (by omega)
          have n5 := nb b' (by omega)
          have m2 := nm (w.heap.size + 1) (by omega)
          have m4 := nm b (by omega)
          have m6 := nm M (by omega)
          have v1 : w.heap.size + 1 ≠ B := by omega
          have v2 : w.heap.size + 1 + 1 ≠ B := by omega
          have v3 : b ≠ B := by omega
          have v4 : b' ≠ B := by omega
          go_wp2_with fail
          go_cut [] (fun wx => ∃ vb', LinS B M (w.heap.size + 5) sa sv ma mv zb zm W (k + 1) k vb' vm wx)
          case first =>
            as_aux_lemma =>
            have ec : ∀ o : Obj, (wr.alloc o).drew.cell? ⟨B, 2, none⟩ = some vb := fun o => (((Below.refl wr.heap.size wr).alloc (Nat.le_refl _) o).drew.cell (p := ⟨B, 2, none⟩) u3).trans e2
            have ec0 : wr.drew.cell? ⟨B, 2, none⟩ = some vb := ((Below.refl wr.heap.size wr).drew.cell (p := ⟨B, 2, none⟩) u3).trans e2
            go_region_law
              ((refine step_append_lies _ (by rfl) _ _ _ (by rfl) (w.heap.size + 5) 3 i0 (.int .i64 0) 1 8 Try.underlying25 hi0 hz0 hz1 hz2 rfl (by decide) vb k _ (by rfl) ((HS.out.oB.alloc _).drew)
                  ⟨wr.heap.size, 0, none⟩ 1 1 [.int .i64 (IntKind.i64.wrap (x + y))] (by rfl) (by rfl) (World.news_of_block (cs := #[.int .i64 (IntKind.i64.wrap (x + y))]) (t := 3) (fr := (0, 0)) (heap_alloc_new wr _)) (by simp [Value.oneCell'])
                  (by omega) hsmall (by omega) (by simp; omega) (wr.heap.size + 1) (by simp) ?_; intro gg cap w1 hown1 hgrow hat hlt1; have wc1 := (hgrow.cell_far ⟨B, 2, none⟩ (by simp; omega) n1.symm).trans (ec _); have wf1 := (hgrow.frozen_far ⟨B, 2, none⟩ (by simp; omega) n1.symm).trans (ff _)))
            all_goals
              go_wp2_with fail
              go_meet
              case rel => exact ⟨_, LinS.stepB LB HS.out hgrow HzB.out hown1 hat⟩
          case rest =>
            as_aux_lemma =>
            obtain ⟨vb', hS1⟩ := hcut
            clear e2 e2f f2 f2f n1 n2 n3 n4 n5 u1 u2 u3 u4 nb nm gx gy x2 y2 r1 r2
            have HS1 := Lib.hid hS1
            have r1 := (hS1.below.block (w.heap.size + 1) (by omega)).trans q1
            have x2 := (blk_cells r1 2).1
            have f2 := (blk_cells hS1.bM 2).1
            have f2f := (blk_cells hS1.bM 2).2
            simp only [Array.getElem?_eq_getElem, List.size_toArray, List.length_cons, List.length_nil, Nat.reduceAdd, Nat.reduceLT, List.getElem_toArray, List.getElem_cons_zero, List.getElem_cons_succ] at x2 f2
            have EW1 := B3.trans (hS1.below.mono B3.size)
            have wz1 := EW1.size
            have zr1 := hS1.zlt
            have nm1 : ∀ r, r < w.heap.size + 5 → vm.ownBlock ≠ some r := fun r hr e => by have := (own_lt hS1.oM e).1; omega
            have gx := (EW1.cell (p := ⟨b, o + k, none⟩) hb).trans HXC.out
            have u1 : b < wc.heap.size := by omega
            have u4 : M < wc.heap.size := by omega
            have ff : ∀ o : Obj, (wc.alloc o).drew.frozen? ⟨M, 2, none⟩ = false := fun o => (((Below.refl wc.heap.size wc).alloc (Nat.le_refl _) o).drew.frozen (p := ⟨M, 2, none⟩) u4).trans f2f
            have ec : ∀ o : Obj, (wc.alloc o).drew.cell? ⟨M, 2, none⟩ = some vm := fun o => (((Below.refl wc.heap.size wc).alloc (Nat.le_refl _) o).drew.cell (p := ⟨M, 2, none⟩) u4).trans f2
            have ec0 : wc.drew.cell? ⟨M, 2, none⟩ = some vm := ((Below.refl wc.heap.size wc).drew.cell (p := ⟨M, 2, none⟩) u4).trans f2
            have n2 := nm1 (w.heap.size + 1) (by omega)
            have n4 := nm1 b (by omega)
            have n6 := nm1 M (by omega)
            have v1' : w.heap.size + 1 ≠ M := by omega
            have v3' : b ≠ M := by omega
            clear hS1
            go_wp2_with fail
            go_region_law
              ((refine step_append_lies _ (by rfl) _ _ _ (by rfl) (w.heap.size + 5) 3 i0 (.int .i64 0) 1 8 Try.underlying25 hi0 hz0 hz1 hz2 rfl (by decide) vm k _ (by rfl) ((HS1.out.oM.alloc _).drew)
                  ⟨wc.heap.size, 0, none⟩ 1 1 [.int .i64 (IntKind.i64.wrap (-x))] (by rfl) (by rfl) (World.news_of_block (cs := #[.int .i64 (IntKind.i64.wrap (-x))]) (t := 3) (fr := (0, 0)) (heap_alloc_new wc _)) (by simp [Value.oneCell'])
                  (by omega) hsmall (by omega) (by simp; omega) (wc.heap.size + 1) (by simp) ?_; intro gg cap w1 hown1 hgrow hat hlt1; have wc1 := (hgrow.cell_far ⟨M, 2, none⟩ (by simp; omega) n6.symm).trans (ec _); have wf1 := (hgrow.frozen_far ⟨M, 2, none⟩ (by simp; omega) n6.symm).trans (ff _)))
            all_goals
              have HL2 := Lib.hid (LinS.stepM LB HS1.out hgrow HzM.out hown1 hat)
              go_wp2_with fail
              go_roundw
              case rel => exact ⟨k + 1, by go_num, by omega, _, _, HL2.out⟩
              case measure => simp [intOf]; omega
        · as_aux_lemma =>
          obtain rfl : k = gs.length := by omega
          have lb : zb.length = gs.length := by rw [HB.out, List.length_zipWith]; have := HL.out; omega
          have lm : zm.length = gs.length := by rw [HM.out, List.length_map]
          have tb : zb.take gs.length = zb := List.take_of_length_le (by omega)
          have tm : zm.take gs.length = zm := List.take_of_length_le (by omega)
          have K1 : LinK w.heap.size B M num damp D a v n lo hi a' v' n' lo' hi' sa sv ma mv (.slice A gs.length c) (.slice A' hs.length c') vb vm wr :=
            ⟨(HS.out.below.block _ (by omega)).trans qs, (HS.out.below.block _ (by omega)).trans q1, (HS.out.below.block _ (by omega)).trans q2, HS.out.bB, HS.out.bM⟩
          have RG1 := hG.below EW
          have RH1 := hH.below EW
          have RB1 : RI wr vb zb := RI.of_own (by have := HS.out.oB; rwa [tb, ← lb] at this)
          have RM1 : RI wr vm zm := RI.of_own (by have := HS.out.oM; rwa [tm, ← lm] at this)
          have LBh := Lib.hid lb
          have LMh := Lib.hid lm
          clear lb lm tb tm x2 y2 e2 f2 e2f f2f r1 r2 nb nm HS
          obtain ⟨⟨c00, c01, c02⟩, ⟨c10, c11, c12⟩, ⟨c20, c21, c22⟩, ⟨c30, c31, c32⟩, c40, c41, c42⟩ := K1.cells
          go_wp2_with fail
          refine (sling_Swing num damp D a v _ gs _ RG1 (by omega)).mono ?_
          rintro e w2 ⟨vo1, rfl, hb2, hR2⟩
          clear c00 c01 c02 c10 c11 c12 c20 c21 c22 c30 c31 c32 c40 c41 c42
          have K2 := K1.below hb2 (by omega) (by omega) (by omega)
          obtain ⟨⟨c00, c01, c02⟩, ⟨c10, c11, c12⟩, ⟨c20, c21, c22⟩, ⟨c30, c31, c32⟩, c40, c41, c42⟩ := K2.cells
          have EW2 := EW.trans (hb2.mono EW.size)
          have RH2 := RH1.below hb2
          have RB2 := RB1.below hb2
          have RM2 := RM1.below hb2
          have z2 := hb2.size
          clear hb2 K1 RH1 RG1 RB1 RM1
          go_wp2_with fail
          refine (sling_Swing num damp D a' v' _ hs _ RH2 (by omega)).mono ?_
          rintro e w3 ⟨vo2, rfl, hb3, hR3⟩
          clear c00 c01 c02 c10 c11 c12 c20 c21 c22 c30 c31 c32 c40 c41 c42
          have K3 := K2.below hb3 (by omega) (by omega) (by omega)
          have EW3 := EW2.trans (hb3.mono EW2.size)
          have hR2' := RS.below hR2 hb3
          have RB3 := RB2.below hb3
          have RM3 := RM2.below hb3
          have z3 := hb3.size
          clear hb3 K2 RH2 RB2 RM2 hR2
          obtain ⟨⟨c00, c01, c02⟩, ⟨c10, c11, c12⟩, ⟨c20, c21, c22⟩, ⟨c30, c31, c32⟩, c40, c41, c42⟩ := K3.cells
          by_cases E1 : swingE num damp D a v gs = 0
          · by_cases E2 : swingE num damp D a' v' hs = 0
            · as_aux_lemma =>
              have V0 := (swingE_facts E1).1
              obtain ⟨PM1, PM2⟩ := PM.out E1
              have hl16 := (swingE_facts E1).2.1
              have hD := (swingE_facts E1).2.2.2.2.2.ok
              have F1 : ∀ k, k < gs.length → ∃ p, (swingL num damp D a v gs)[k]? = some p ∧ LinRow D k p := fun k hk => by obtain ⟨p, h1, h2, _⟩ := swingL_at E1 hk; exact ⟨p, h1, h2⟩
              have F2 : ∀ k, k < gs.length → ∃ p, (swingL num damp D a' v' hs)[k]? = some p ∧ LinRow D k p := fun k hk => by obtain ⟨p, h1, h2, _⟩ := swingL_at E2 (show k < hs.length by have := HL.out; omega); exact ⟨p, h1, h2⟩
              have FB := fun hb k (hk : k < gs.length) => PB.out E1 E2 HL.out hb hk
              have N1 : (swingL num damp D a v gs).length = gs.length := swingL_len E1
              have N2 : (swingL num damp D a' v' hs).length = gs.length := (swingL_len E2).trans HL.out.symm
              have D1 := hD.1
              have D2 := hD.2.1
              clear hD PM PB
              rw [E1, E2]
              have HV0 := Lib.hid V0
              have HPM1 := Lib.hid PM1
              have HPM2 := Lib.hid PM2
              have HF1 := Lib.hid F1
              have HF2 := Lib.hid F2
              have HFB := Lib.hid FB
              have HN1 := Lib.hid N1
              have HN2 := Lib.hid N2
              clear V0 PM1 PM2 F1 F2 FB N1 N2 E1 E2
              go_wp2_with fail
              refine (ref_Check num damp D _).mono ?_
              rintro e w4 ⟨rfl, hb4⟩
              rw [HV0.out]
              clear c00 c01 c02 c10 c11 c12 c20 c21 c22 c30 c31 c32 c40 c41 c42
              have K4 := K3.below hb4 (by omega) (by omega) (by omega)
              have EW4 := EW3.trans (hb4.mono EW3.size)
              have P1 := RS.below hR2' hb4
              have P2 := RS.below hR3 hb4
              have RB4 := RB3.below hb4
              have RM4 := RM3.below hb4
              have z4 := hb4.size
              clear hb4 K3 RB3 RM3 hR2' hR3
              obtain ⟨⟨c00, c01, c02⟩, ⟨c10, c11, c12⟩, ⟨c20, c21, c22⟩, ⟨c30, c31, c32⟩, c40, c41, c42⟩ := K4.cells
              go_wp2_with fail
              refine (sling_Swing num damp D ma mv _ zm _ RM4 (by have := LMh.out; omega)).mono ?_
              rintro e w5 ⟨vo3, rfl, hb5, hR5⟩
              rw [HPM1.out]
              rw [HPM2.out] at hR5
              clear c00 c01 c02 c10 c11 c12 c20 c21 c22 c30 c31 c32 c40 c41 c42
              have K5 := K4.below hb5 (by omega) (by omega) (by omega)
              have EW5 := EW4.trans (hb5.mono EW4.size)
              have P1' := RS.below P1 hb5
              have P2' := RS.below P2 hb5
              have RB5 := RB4.below hb5
              have z5 := hb5.size
              clear hb5 K4 RB4 RM4 P1 P2
              obtain ⟨A1, cp1, rfl, hcp1⟩ := RP.formN P1' HN1.out
              obtain ⟨A2, cp2, rfl, hcp2⟩ := RP.formN P2' HN2.out
              obtain ⟨A3, cp3, rfl, hcp3⟩ := RP.formN hR5 (show _ = gs.length by rw [List.length_map]; exact HN1.out)
              obtain ⟨⟨c00, c01, c02⟩, ⟨c10, c11, c12⟩, ⟨c20, c21, c22⟩, ⟨c30, c31, c32⟩, c40, c41, c42⟩ := K5.cells
              go_wp2_with fail
              refine (sling_Swing num damp D sa sv _ zb _ RB5 (by have := LBh.out; omega)).mono ?_
              rintro e w6 ⟨vo4, rfl, hb6, hR6⟩
              clear c00 c01 c02 c10 c11 c12 c20 c21 c22 c30 c31 c32 c40 c41 c42
              have K6 := K5.below hb6 (by omega) (by omega) (by omega)
              have EW6 := EW5.trans (hb6.mono EW5.size)
              have P1 := RS.below P1' hb6
              have P2 := RS.below P2' hb6
              have P3 := RS.below hR5 hb6
              have z6 := hb6.size
              clear hb6 K5 RB5 P1' P2' hR5
              obtain ⟨⟨c00, c01, c02⟩, -, -, -, -⟩ := K6.cells
              by_cases EB : swingE num damp D sa sv zb = 0
              · as_aux_lemma =>
                have HEB := Lib.hid EB
                have HNB := Lib.hid ((swingL_len EB).trans LBh.out)
                obtain ⟨A4, cp4, rfl, hcp4⟩ := RP.formN hR6 HNB.out
                rw [EB]
                clear EB
                go_wp2_with fail
                go_loopw [18, 19] (fun s18 s19 wr => ∃ k : Nat, s19 = .int .i64 k ∧ k ≤ gs.length ∧ s18 = .int .i64 (pw D k) ∧ Below w6.heap.size w6 wr) (fun _ s19 _ => gs.length - (intOf s19).toNat)
                case atStart => exact ⟨0, rfl, by omega, by rw [pw_zero], Below.refl _ _⟩
                case round =>
                  as_aux_lemma =>
                  obtain ⟨k, rfl, hk, rfl, hbl⟩ := hrel
                  obtain ⟨⟨c00, c01, c02⟩, -, -, -, -⟩ := (K6.below hbl (by omega) (by omega) (by omega)).cells
                  by_cases hlt : k < gs.length
                  · as_aux_lemma =>
                    obtain ⟨⟨p0, p1⟩, ⟨q0, q1⟩, ⟨r0, r1⟩, hp, hq, hr, L1, L2, L3, LS⟩ := HFB.out HEB.out k hlt
                    obtain ⟨f1, f2, f3, f4, f5, f6, f7, f8, f9, f10⟩ := row_facts L1 D1 D2 (by omega)
                    obtain ⟨g1, g2, g3, g4, g5, g6, g7, g8, g9, g10⟩ := row_facts L2 D1 D2 (by omega)
                    obtain ⟨h1, h2, h3, h4, h5, h6, h7, h8, h9, h10⟩ := row_facts L3 D1 D2 (by omega)
                    change p0 * (pw D (k + 1) / p1) + q0 * (pw D (k + 1) / q1) = r0 * (pw D (k + 1) / r1) at LS
                    have LT : IntKind.i64.wrap (p0 * (pw D (k + 1) / p1) + q0 * (pw D (k + 1) / q1)) = r0 * (pw D (k + 1) / r1) := by rw [LS]; exact Go.Proofs.Ytliddinpfgpnfaa.wr (by omega) (by omega)
                    obtain ⟨b1, o1, x1, e1, hb1, y1, z1⟩ := (RP.below P1 hbl).atN HN1.out hp
                    obtain ⟨b2, o2, x2, e2, hb2, y2, z2'⟩ := (RP.below P2 hbl).atN HN2.out hq
                    obtain ⟨b3, o3, x3, e3, hb3, y3, z3'⟩ := (RP.below P3 hbl).atN (n := gs.length) (k := k) (p := (-p0, p1)) (by rw [List.length_map]; exact HN1.out) (by rw [List.getElem?_map, hp]; first | done | rfl)
                    obtain ⟨b4, o4, x4, e4, hb4, y4, z4'⟩ := (RP.below hR6 hbl).atN HNB.out hr
                    cases e1; cases e2; cases e3; cases e4
                    dsimp only at y1 z1 y2 z2' y3 z3' y4 z4'
                    have pk := pw_bound (D := D) (k := k) D1 D2 (by omega)
                    have pk1 := pw_bound (D := D) (k := k + 1) D1 D2 (by omega)
                    have hw := pw_wrap (D := D) (k := k) D1 D2 (by omega)
                    have HPK := Lib.hid (show pw D (k + 1) = pw D (k + 1) from rfl)
                    clear hp hq hr L1 L2 L3 LS
                    generalize hd1 : pw D (k + 1) = d1 at *
                    generalize pw D k = d0 at *
                    have Hd1 := Lib.hid hd1
                    clear hd1
                    have hk0 : (0 : Int) ≤ (k : Int) := Int.natCast_nonneg _
                    have hk1 : (k : Int) < (gs.length : Int) := by omega
                    go_wp2_with fail
                    refine rg_all (by kernel_rfl) (by kernel_rfl) ?_
                    repeat (go_big_quiet_step ((go_at_call 16; exact Calls.regrown_of (law_fraction _ _ _))))
                    refine wpQuiet_nil ?_
                    intro w7 hw7
                    have F7 := rg_below hw7
                    clear hw7
                    as_aux_lemma =>
                    obtain ⟨hc7, hf7, hs7⟩ := bcell F7
                    have u1 : b1 < w7.heap.size := by omega
                    have u2 : b2 < w7.heap.size := by omega
                    have u4 : b4 < w7.heap.size := by omega
                    go_wp2_with fail
                    refine rg_all (by kernel_rfl) (by kernel_rfl) ?_
                    repeat (go_big_quiet_step ((go_at_call 16; exact Calls.regrown_of (law_fraction _ _ _))))
                    refine wpQuiet_nil ?_
                    intro w8 hw8
                    have F8 := rg_below hw8
                    clear hw8 hc7 hf7
                    go_wp2_with fail
                    go_roundw
                    case rel => exact ⟨k + 1, by go_num, by omega, by rw [Hd1.out], (hbl.trans (F7.mono hbl.size)).trans (F8.mono (by have := hbl.size; omega))⟩
                    case measure => simp [intOf]; omega
                  · as_aux_lemma =>
                    go_wp2_with fail
                    refine (law_works _).mono ?_
                    rintro e w9 ⟨rfl, hb9⟩
                    go_wp2
                    go_ret
                    exact ⟨rfl, (EW6.trans (hbl.mono EW6.size)).trans (hb9.mono (EW6.trans (hbl.mono EW6.size)).size)⟩
              · as_aux_lemma =>
                have EBb : (swingE num damp D sa sv zb == 0) = false := by simpa using EB
                have EBc : (swingE num damp D sa sv zb != 0) = true := by simpa using EB
                clear EB
                go_wp2_with fail
                go_loopw [18, 19] (fun s18 s19 wr => ∃ k : Nat, s19 = .int .i64 k ∧ k ≤ gs.length ∧ s18 = .int .i64 (pw D k) ∧ Below w6.heap.size w6 wr) (fun _ s19 _ => gs.length - (intOf s19).toNat)
                case atStart => exact ⟨0, rfl, by omega, by rw [pw_zero], Below.refl _ _⟩
                case round =>
                  as_aux_lemma =>
                  obtain ⟨k, rfl, hk, rfl, hbl⟩ := hrel
                  obtain ⟨⟨c00, c01, c02⟩, -, -, -, -⟩ := (K6.below hbl (by omega) (by omega) (by omega)).cells
                  by_cases hlt : k < gs.length
                  · as_aux_lemma =>
                    obtain ⟨⟨p0, p1⟩, hp, L1⟩ := HF1.out k hlt
                    obtain ⟨⟨q0, q1⟩, hq, L2⟩ := HF2.out k hlt
                    obtain ⟨f1, f2, f3, f4, f5, f6, f7, f8, f9, f10⟩ := row_facts L1 D1 D2 (by omega)
                    obtain ⟨g1, g2, g3, g4, g5, g6, g7, g8, g9, g10⟩ := row_facts L2 D1 D2 (by omega)
                    obtain ⟨b1, o1, x1, e1, hb1, y1, z1⟩ := (RP.below P1 hbl).atN HN1.out hp
                    obtain ⟨b2, o2, x2, e2, hb2, y2, z2'⟩ := (RP.below P2 hbl).atN HN2.out hq
                    obtain ⟨b3, o3, x3, e3, hb3, y3, z3'⟩ := (RP.below P3 hbl).atN (n := gs.length) (k := k) (p := (-p0, p1)) (by rw [List.length_map]; exact HN1.out) (by rw [List.getElem?_map, hp]; first | done | rfl)
                    cases e1; cases e2; cases e3
                    dsimp only at y1 z1 y2 z2' y3 z3'
                    have pk := pw_bound (D := D) (k := k) D1 D2 (by omega)
                    have pk1 := pw_bound (D := D) (k := k + 1) D1 D2 (by omega)
                    have hw := pw_wrap (D := D) (k := k) D1 D2 (by omega)
                    have HPK := Lib.hid (show pw D (k + 1) = pw D (k + 1) from rfl)
                    clear hp hq L1 L2
                    generalize hd1 : pw D (k + 1) = d1 at *
                    generalize pw D k = d0 at *
                    have Hd1 := Lib.hid hd1
                    clear hd1
                    have hk0 : (0 : Int) ≤ (k : Int) := Int.natCast_nonneg _
                    have hk1 : (k : Int) < (gs.length : Int) := by omega
                    go_wp2_with fail
                    refine rg_all (by kernel_rfl) (by kernel_rfl) ?_
                    repeat (go_big_quiet_step ((go_at_call 16; exact Calls.regrown_of (law_fraction _ _ _))))
                    refine wpQuiet_nil ?_
                    intro w7 hw7
                    have F7 := rg_below hw7
                    clear hw7
                    as_aux_lemma =>
                    go_wp2_with fail
                    go_roundw
                    case rel => exact ⟨k + 1, by go_num, by omega, by rw [Hd1.out], hbl.trans (F7.mono hbl.size)⟩
                    case measure => simp [intOf]; omega
                  · as_aux_lemma =>
                    go_wp2_with fail
                    refine (law_works _).mono ?_
                    rintro e w9 ⟨rfl, hb9⟩
                    go_wp2
                    go_ret
                    exact ⟨rfl, (EW6.trans (hbl.mono EW6.size)).trans (hb9.mono (EW6.trans (hbl.mono EW6.size)).size)⟩
            · as_aux_lemma =>
              have E2b : (swingE num damp D a' v' hs != 0) = true := by simpa using E2
              rw [E1]
              clear E1 E2
              go_wp2_with fail
              refine (law_works _).mono ?_
              rintro e w9 ⟨rfl, hb9⟩
              go_wp2
              go_ret
              exact ⟨rfl, EW3.trans (hb9.mono EW3.size)⟩
          · as_aux_lemma =>
            have E1b : (swingE num damp D a v gs != 0) = true := by simpa using E1
            clear E1
            go_wp2_with fail
            refine (law_works _).mono ?_
            rintro e w9 ⟨rfl, hb9⟩
            go_wp2
            go_ret
            exact ⟨rfl, EW3.trans (hb9.mono EW3.size)⟩
  · have hl2 : ((gs.length : Int) != (hs.length : Int)) = true := by simp; omega
    have HL := Lib.hid hl
    clear hl
    go_enter Try.func3, Try.ntmps3
    go_wp2_with fail
    refine (law_works _).mono ?_
    rintro e w1 ⟨rfl, hb1⟩
    go_wp2
    go_ret
    exact ⟨rfl, B3.trans (hb1.mono B3.size)⟩

end Go.Proofs.Ytliddinpfgpnfaa
