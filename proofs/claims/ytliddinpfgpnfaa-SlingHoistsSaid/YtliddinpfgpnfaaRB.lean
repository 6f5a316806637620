/- Contract of the specification: Haul. -/
import Derived.Test.YtliddinpfgpnfaaRA
import Derived.Test.YtliddinpfgpnfaaL8
import Derived.Deep.RegionHeld3
import Derived.Deep.CutRange
namespace Go.Proofs.Ytliddinpfgpnfaa
open Go Go.RowKit Go.Sort
set_option linter.unusedSimpArgs false
set_option linter.unusedVariables false

abbrev hangO (s : Hg) : Obj := .cells #[.int .i64 s.L, .int .i64 s.W, .int .i64 s.S, .int .i64 s.C, .bool s.cut] 56 (0, 0)

def NoneP (w : World) (e : Ending) (w' : World) : Prop := ∃ (a b c d : Int) (p q : Bool), e = .returned (.tuple #[.agg #[.int .i64 a, .int .i64 b, .int .i64 c, .int .i64 d, .bool p], .bool q, .bool false]) ∧ Below w.heap.size w w'
theorem StepPost.none' {w w' : World} {e : Ending} {r : Option Hg} (hr : r = none) (h : StepPost r w e w') : NoneP w e w' := by
  subst hr; obtain ⟨hb, a, b, c, d, p, q, he⟩ := h; exact ⟨a, b, c, d, p, q, he, hb⟩
theorem StepPost.some' {w w' : World} {e : Ending} {r : Option Hg} {s : Hg} (hr : r = some s) (h : StepPost r w e w') : AllBelow (.tuple #[.agg #[.int .i64 s.L, .int .i64 s.W, .int .i64 s.S, .int .i64 s.C, .bool s.cut], .bool s.t, .bool true]) w e w' := by
  subst hr; exact ⟨h.2, h.1⟩

/-- The cells of the round's region stay. -/
theorem rh_keep {M H N b o : Nat} {W1 W2 : World} {v0 v1 v2 v3 v4 v5 v6 v7 v8 v9 v10 v11 v12 v13 : Value} (hb : Below M W1 W2) (h1 : H + 1 < M) (h2 : N < M) (h3 : b < M) (c0 : W1.cell? ⟨H, 0, none⟩ = some v0) (c1 : W1.cell? ⟨H, 1, none⟩ = some v1) (c2 : W1.cell? ⟨H, 2, none⟩ = some v2) (c3 : W1.cell? ⟨H, 3, none⟩ = some v3) (c4 : W1.cell? ⟨H, 4, none⟩ = some v4) (c5 : W1.cell? ⟨H + 1, 0, none⟩ = some v5) (c6 : W1.cell? ⟨H + 1, 1, none⟩ = some v6) (c7 : W1.cell? ⟨N, 0, none⟩ = some v7) (c8 : W1.cell? ⟨N, 1, none⟩ = some v8) (c9 : W1.cell? ⟨N, 2, none⟩ = some v9) (c10 : W1.cell? ⟨N, 3, none⟩ = some v10) (c11 : W1.cell? ⟨N, 4, none⟩ = some v11) (c12 : W1.cell? ⟨b, o, none⟩ = some v12) (c13 : W1.cell? ⟨b, o + 1, none⟩ = some v13) :
    W2.cell? ⟨H, 0, none⟩ = some v0 ∧ W2.cell? ⟨H, 1, none⟩ = some v1 ∧ W2.cell? ⟨H, 2, none⟩ = some v2 ∧ W2.cell? ⟨H, 3, none⟩ = some v3 ∧ W2.cell? ⟨H, 4, none⟩ = some v4 ∧ W2.cell? ⟨H + 1, 0, none⟩ = some v5 ∧ W2.cell? ⟨H + 1, 1, none⟩ = some v6 ∧ W2.cell? ⟨N, 0, none⟩ = some v7 ∧ W2.cell? ⟨N, 1, none⟩ = some v8 ∧ W2.cell? ⟨N, 2, none⟩ = some v9 ∧ W2.cell? ⟨N, 3, none⟩ = some v10 ∧ W2.cell? ⟨N, 4, none⟩ = some v11 ∧ W2.cell? ⟨b, o, none⟩ = some v12 ∧ W2.cell? ⟨b, o + 1, none⟩ = some v13 :=
  ⟨(hb.cell (p := ⟨H, 0, none⟩) (show _ < M by dsimp only; omega)).trans c0, (hb.cell (p := ⟨H, 1, none⟩) (show _ < M by dsimp only; omega)).trans c1, (hb.cell (p := ⟨H, 2, none⟩) (show _ < M by dsimp only; omega)).trans c2, (hb.cell (p := ⟨H, 3, none⟩) (show _ < M by dsimp only; omega)).trans c3, (hb.cell (p := ⟨H, 4, none⟩) (show _ < M by dsimp only; omega)).trans c4, (hb.cell (p := ⟨H + 1, 0, none⟩) (show _ < M by dsimp only; omega)).trans c5, (hb.cell (p := ⟨H + 1, 1, none⟩) (show _ < M by dsimp only; omega)).trans c6, (hb.cell (p := ⟨N, 0, none⟩) (show _ < M by dsimp only; omega)).trans c7, (hb.cell (p := ⟨N, 1, none⟩) (show _ < M by dsimp only; omega)).trans c8, (hb.cell (p := ⟨N, 2, none⟩) (show _ < M by dsimp only; omega)).trans c9, (hb.cell (p := ⟨N, 3, none⟩) (show _ < M by dsimp only; omega)).trans c10, (hb.cell (p := ⟨N, 4, none⟩) (show _ < M by dsimp only; omega)).trans c11, (hb.cell (p := ⟨b, o, none⟩) (show _ < M by dsimp only; omega)).trans c12, (hb.cell (p := ⟨b, o + 1, none⟩) (show _ < M by dsimp only; omega)).trans c13⟩

/-- What the round's region reads. -/
def RhS (cable : Int) (vX vY vV : Value) (charge lo hi : Int) (s : Hg) (x y : Int) (H N b o : Nat) (w' : World) : Prop := w'.cell? ⟨H, 0, none⟩ = some (.int .i64 cable) ∧ w'.cell? ⟨H, 1, none⟩ = some vX ∧ w'.cell? ⟨H, 2, none⟩ = some vY ∧ w'.cell? ⟨H, 3, none⟩ = some vV ∧ w'.cell? ⟨H, 4, none⟩ = some (.int .i64 charge) ∧ w'.cell? ⟨H + 1, 0, none⟩ = some (.int .i64 lo) ∧ w'.cell? ⟨H + 1, 1, none⟩ = some (.int .i64 hi) ∧ w'.cell? ⟨N, 0, none⟩ = some (.int .i64 s.L) ∧ w'.cell? ⟨N, 1, none⟩ = some (.int .i64 s.W) ∧ w'.cell? ⟨N, 2, none⟩ = some (.int .i64 s.S) ∧ w'.cell? ⟨N, 3, none⟩ = some (.int .i64 s.C) ∧ w'.cell? ⟨N, 4, none⟩ = some (.bool s.cut) ∧ w'.cell? ⟨b, o, none⟩ = some (.int .i64 x) ∧ w'.cell? ⟨b, o + 1, none⟩ = some (.int .i64 y)

theorem RhS.keep {cable : Int} {vX vY vV : Value} {charge lo hi : Int} {s : Hg} {x y : Int} {M H N b o : Nat} {W1 W2 : World} (h : RhS cable vX vY vV charge lo hi s x y H N b o W1) (hb : Below M W1 W2) (h1 : H + 1 < M) (h2 : N < M) (h3 : b < M) : RhS cable vX vY vV charge lo hi s x y H N b o W2 := by
  obtain ⟨a0, a1, a2, a3, a4, a5, a6, a7, a8, a9, a10, a11, a12, a13⟩ := h
  exact rh_keep hb h1 h2 h3 a0 a1 a2 a3 a4 a5 a6 a7 a8 a9 a10 a11 a12 a13

theorem set5_new {w : World} {b : Nat} {s0 : Hg} (h : w.heap[b]? = some (hangO s0)) (s : Hg) : (((((w.setCell ⟨b, 0, none⟩ (.int .i64 s.L)).setCell ⟨b, 1, none⟩ (.int .i64 s.W)).setCell ⟨b, 2, none⟩ (.int .i64 s.S)).setCell ⟨b, 3, none⟩ (.int .i64 s.C)).setCell ⟨b, 4, none⟩ (.bool s.cut)).heap[b]? = some (hangO s) :=
  heap_setCell_at (heap_setCell_at (heap_setCell_at (heap_setCell_at (heap_setCell_at h _) _) _) _) _

set_option maxRecDepth 100000 in
set_option maxHeartbeats 64000000 in
theorem ref_Haul (vX vY vV : Value) (X Y : List Int) (V : List (List Int)) (cable charge lo hi : Int) (vl : Value) (l : List (Int × Int)) (w : World) (hR : RT w vX vY vV X Y V) (hl : RP w vl l) (hln : l.length ≤ 1000000000000000000) :
    Calls Try.prog 26 #[.agg #[.int .i64 cable, vX, vY, vV, .int .i64 charge], .agg #[.int .i64 lo, .int .i64 hi], vl] w (HaulPost (haulS cable X Y V charge lo hi l) w) := by
  have B3 := haW_below cable vX vY vV charge lo hi w
  have z3 : (haW cable vX vY vV charge lo hi w).heap.size = w.heap.size + 1 + 1 + 1 := by simp
  obtain ⟨Al, cl, rfl, hcl⟩ := hl.form
  have hN := ref_CheckWinds cable charge lo hi vX vY vV X Y V _ (hR.below B3)
  by_cases h1 : windsE cable X Y V charge lo hi = 71
  · have Hr := Lib.hid (show haulS cable X Y V charge lo hi l = (h0, 0, 71) by rw [haulS, if_pos (Or.inl h1), h1])
    rw [h1] at hN
    clear h1
    go_enter Try.func26, Try.ntmps26
    go_wp2_with fail
    refine hN.mono ?_
    rintro e w1 ⟨rfl, hb1⟩
    have E1 := B3.trans (hb1.mono B3.size)
    rw [z3] at hb1
    obtain ⟨hres, uR⟩ := haW_res hb1
    obtain ⟨⟨t0, t1, t2, t3, t4⟩, ⟨f0, f1, f2, f3, f4⟩⟩ := hang_cells hres
    clear hres hb1
    go_wp2_with fail
    refine bodyPost_ret (v := .tuple #[.agg #[.int .i64 0, .int .i64 0, .int .i64 0, .int .i64 0, .bool false], .int .i64 0, .int .i64 71]) (by simp [results, Try.results26, go_sem, t0, t1, t2, t3, t4, uR]) rfl ⟨by rw [Hr.out]; rfl, ?_⟩
    exact set5 E1 (by omega) _ _ _ _ _
  · by_cases h2 : windsE cable X Y V charge lo hi = 10
    · have Hr := Lib.hid (show haulS cable X Y V charge lo hi l = (h0, 0, 10) by rw [haulS, if_pos (Or.inr h2), h2])
      rw [h2] at hN
      clear h1 h2
      go_enter Try.func26, Try.ntmps26
      go_wp2_with fail
      refine hN.mono ?_
      rintro e w1 ⟨rfl, hb1⟩
      have E1 := B3.trans (hb1.mono B3.size)
      rw [z3] at hb1
      obtain ⟨hres, uR⟩ := haW_res hb1
      obtain ⟨⟨t0, t1, t2, t3, t4⟩, ⟨f0, f1, f2, f3, f4⟩⟩ := hang_cells hres
      clear hres hb1
      go_wp2_with fail
      refine bodyPost_ret (v := .tuple #[.agg #[.int .i64 0, .int .i64 0, .int .i64 0, .int .i64 0, .bool false], .int .i64 0, .int .i64 10]) (by simp [results, Try.results26, go_sem, t0, t1, t2, t3, t4, uR]) rfl ⟨by rw [Hr.out]; rfl, ?_⟩
      exact set5 E1 (by omega) _ _ _ _ _
    · have e1 : (windsE cable X Y V charge lo hi == 71) = false := by simpa using h1
      have e2 : (windsE cable X Y V charge lo hi == 10) = false := by simpa using h2
      by_cases h3 : 100 < l.length
      · have Hr := Lib.hid (show haulS cable X Y V charge lo hi l = (h0, 0, 2) by rw [haulS, if_neg (by rintro (a | a); exact h1 a; exact h2 a), if_pos h3])
        have h3' : (100 : Int) < (l.length : Int) := by omega
        clear h1 h2
        go_enter Try.func26, Try.ntmps26
        go_wp2_with fail
        refine hN.mono ?_
        rintro e w1 ⟨rfl, hb1⟩
        have E1 := B3.trans (hb1.mono B3.size)
        rw [z3] at hb1
        obtain ⟨hres, uR⟩ := haW_res hb1
        obtain ⟨⟨t0, t1, t2, t3, t4⟩, ⟨f0, f1, f2, f3, f4⟩⟩ := hang_cells hres
        clear hres hb1
        go_wp2_with fail
        refine bodyPost_ret (v := .tuple #[.agg #[.int .i64 0, .int .i64 0, .int .i64 0, .int .i64 0, .bool false], .int .i64 0, .int .i64 2]) (by simp [results, Try.results26, go_sem, t0, t1, t2, t3, t4, uR]) rfl ⟨by rw [Hr.out]; rfl, ?_⟩
        exact set5 E1 (by omega) _ _ _ _ _
      · have h3' : (l.length : Int) ≤ 100 := by omega
        by_cases h4 : windsE cable X Y V charge lo hi = 0
        · have hO := windsE_zero h4
          obtain ⟨hc0, hc1⟩ := hO.cab
          have Hr := Lib.hid (show haulS cable X Y V charge lo hi l = haulOf (runO (refO cable X Y V charge lo hi) h0 0 l) by rw [haulS, if_neg (by rintro (a | a); exact h1 a; exact h2 a), if_neg h3, if_neg (by rw [h4]; simp)])
          have HO := Lib.hid hO
          rw [h4] at hN
          clear h1 h2 h3 h4 hO e1 e2
          go_enter Try.func26, Try.ntmps26
          go_wp2_with fail
          refine hN.mono ?_
          rintro e w1 ⟨rfl, hb1⟩
          have E1 := B3.trans (hb1.mono B3.size)
          rw [z3] at hb1
          have z1 := hb1.size
          rw [z3] at z1
          go_wp2_with fail
          go_loopw [11, 12] (fun s11 s12 wr => ∃ (k : Nat) (s : Hg), s12 = .int .i64 k ∧ s11 = .bool s.t ∧ k ≤ l.length ∧ Vd cable k s ∧ runO (refO cable X Y V charge lo hi) h0 0 l = runO (refO cable X Y V charge lo hi) s k (l.drop k) ∧ wr.heap[w1.heap.size]? = some (hangO s) ∧ Below w1.heap.size w1 wr) (fun _ s12 _ => l.length - (intOf s12).toNat)
          case atStart => exact ⟨0, h0, rfl, rfl, by omega, vd0 (by omega), rfl, heap_alloc_new _ _, (Below.refl _ _).alloc (Nat.le_refl _) _⟩
          case round =>
            as_aux_lemma =>
            obtain ⟨k, s, rfl, rfl, hk, hv, hrun, hgs, hbl⟩ := hrel
            have Hrun := Lib.hid hrun
            have Hgs := Lib.hid hgs
            have hgl := blk_lt hgs
            have Hv := Lib.hid hv
            clear hrun hgs hv
            have hbw : Below (w.heap.size + 1 + 1 + 1) (haW cable vX vY vV charge lo hi w) wr := hb1.trans (hbl.mono z1)
            have E2 := B3.trans (hbw.mono (by omega))
            have hbh : Below (w.heap.size + 1 + 1) (hoW cable vX vY vV charge lo hi w) wr := ((Below.refl _ _).alloc (by simp) _).trans (hbw.mono (by omega))
            obtain ⟨⟨d0, d1, d2, d3, d4⟩, ⟨n0, n1, n2, n3, n4⟩⟩ := hang_cells Hgs.out
            by_cases hlt : k < l.length
            · obtain ⟨⟨q0, q1, q2, q3, q4⟩, ⟨q5, q6⟩, q7⟩ := box52 hbh
              obtain ⟨b, o, c, x, y, e, hb, hx, hcell0, hcell1⟩ := (hl.below E2).at hlt
              cases e
              have hdn := drop_next hx
              have hnx : runO (refO cable X Y V charge lo hi) h0 0 l = match refO cable X Y V charge lo hi s x y with | none => .inr k | some s' => runO (refO cable X Y V charge lo hi) s' (k + 1) (l.drop (k + 1)) := by rw [Hrun.out, hdn]; rfl
              have Hnx := Lib.hid hnx
              clear hdn hnx hx
              have i0 : (0 : Int) ≤ (k : Int) := by omega
              have i1 : (k : Int) < (l.length : Int) := by omega
              have hst := fun (W : World) (hb : Below w.heap.size w W) => ref_Step vX vY vV X Y V cable charge lo hi s x y k W (hR.below hb) hc1 (by omega) Hv.out
              have HE2 := Lib.hid E2
              cases hd : refO cable X Y V charge lo hi s x y with
              | none =>
                have HSt := Lib.hid (fun (W : World) (hb : Below w.heap.size w W) => (hst W hb).mono (fun e w' h => StepPost.none' hd h))
                have Hd := Lib.hid hd
                have bq : b < wr.heap.size := hb
                clear hst hd
                go_wp2_with fail
                go_cut [13, 14, 15] (fun s13 s14 s15 wx => ∃ B t, s13 = .pointer (some ⟨B, 0, none⟩) ∧ s14 = .bool t ∧ s15 = .bool false ∧ Below wr.heap.size wr wx)
                case first =>
                  as_aux_lemma =>
                  have hB : RhS cable vX vY vV charge lo hi s x y w.heap.size w1.heap.size b (o + k * 2) wr := ⟨q0, q1, q2, q3, q4, q5, q6, d0, d1, d2, d3, d4, hcell0, hcell1⟩
                  refine wp_region_held_drew (S := fun w' => RhS cable vX vY vV charge lo hi s x y w.heap.size w1.heap.size b (o + k * 2) w') (by kernel_rfl) (RhS.keep hB ((Below.refl _ wr).drew) (show w.heap.size + 1 < wr.heap.size by omega) (show w1.heap.size < wr.heap.size by omega) (show b < wr.heap.size by omega)) (fun hHeld => ?_)
                  refine wpAnyH_take (i := 0) (oi := _) (v := ?_) rfl (by kernel_rfl) (by kernel_rfl) (by kernel_rfl) (fun _ _ _ h => h) (Or.inl ⟨by kernel_rfl, ?_⟩) hHeld ?_
                  rotate_left
                  · (intro w hSw; (obtain ⟨a0, a1, a2, a3, a4, a5, a6, a7, a8, a9, a10, a11, a12, a13⟩ := hSw); go_simp; try (with_reducible rfl))
                  simp only [Act.put, List.setIfInBounds_toArray, List.set_cons_zero, List.set_cons_succ]
                  refine wpAnyH_take (i := 1) (oi := _) (v := ?_) rfl (by kernel_rfl) (by kernel_rfl) (by kernel_rfl) (fun _ _ _ h => h) (Or.inl ⟨by kernel_rfl, ?_⟩) hHeld ?_
                  rotate_left
                  · (intro w hSw; (obtain ⟨a0, a1, a2, a3, a4, a5, a6, a7, a8, a9, a10, a11, a12, a13⟩ := hSw); go_simp; try (with_reducible rfl))
                  simp only [Act.put, List.setIfInBounds_toArray, List.set_cons_zero, List.set_cons_succ]
                  refine wpAnyH_take (i := 2) (oi := _) (v := ?_) rfl (by kernel_rfl) (by kernel_rfl) (by kernel_rfl) (fun _ _ _ h => h) (Or.inl ⟨by kernel_rfl, ?_⟩) hHeld ?_
                  rotate_left
                  · (intro w hSw; (obtain ⟨a0, a1, a2, a3, a4, a5, a6, a7, a8, a9, a10, a11, a12, a13⟩ := hSw); go_simp; try (with_reducible rfl))
                  simp only [Act.put, List.setIfInBounds_toArray, List.set_cons_zero, List.set_cons_succ]
                  refine wpAnyH_take (i := 3) (oi := _) (v := ?_) rfl (by kernel_rfl) (by kernel_rfl) (by kernel_rfl) (fun _ _ _ h => h) (Or.inl ⟨by kernel_rfl, ?_⟩) hHeld ?_
                  rotate_left
                  · (intro w hSw; (obtain ⟨a0, a1, a2, a3, a4, a5, a6, a7, a8, a9, a10, a11, a12, a13⟩ := hSw); go_simp; try (with_reducible rfl))
                  simp only [Act.put, List.setIfInBounds_toArray, List.set_cons_zero, List.set_cons_succ]
                  refine wpAnyH_take (i := 4) (oi := _) (v := ?_) rfl (by kernel_rfl) (by kernel_rfl) (by kernel_rfl) (fun _ _ _ h => h) (Or.inl ⟨by kernel_rfl, ?_⟩) hHeld ?_
                  rotate_left
                  · (intro w hSw; (obtain ⟨a0, a1, a2, a3, a4, a5, a6, a7, a8, a9, a10, a11, a12, a13⟩ := hSw); go_simp; try (with_reducible rfl))
                  simp only [Act.put, List.setIfInBounds_toArray, List.set_cons_zero, List.set_cons_succ]
                  refine wpAnyH_take (i := 5) (oi := _) (v := ?_) rfl (by kernel_rfl) (by kernel_rfl) (by kernel_rfl) (fun _ _ _ h => h) (Or.inl ⟨by kernel_rfl, ?_⟩) hHeld ?_
                  rotate_left
                  · (intro w hSw; (obtain ⟨a0, a1, a2, a3, a4, a5, a6, a7, a8, a9, a10, a11, a12, a13⟩ := hSw); go_simp; try (with_reducible rfl))
                  simp only [Act.put, List.setIfInBounds_toArray, List.set_cons_zero, List.set_cons_succ]
                  refine wpAnyH_take (i := 6) (oi := _) (v := ?_) rfl (by kernel_rfl) (by kernel_rfl) (by kernel_rfl) (fun _ _ _ h => h) (Or.inl ⟨by kernel_rfl, ?_⟩) hHeld ?_
                  rotate_left
                  · (intro w hSw; (obtain ⟨a0, a1, a2, a3, a4, a5, a6, a7, a8, a9, a10, a11, a12, a13⟩ := hSw); go_simp; try (with_reducible rfl))
                  simp only [Act.put, List.setIfInBounds_toArray, List.set_cons_zero, List.set_cons_succ]
                  refine wpAnyH_take (i := 7) (oi := _) (v := ?_) rfl (by kernel_rfl) (by kernel_rfl) (by kernel_rfl) (fun _ _ _ h => h) (Or.inl ⟨by kernel_rfl, ?_⟩) hHeld ?_
                  rotate_left
                  · (intro w hSw; (obtain ⟨a0, a1, a2, a3, a4, a5, a6, a7, a8, a9, a10, a11, a12, a13⟩ := hSw); go_simp; try (with_reducible rfl))
                  simp only [Act.put, List.setIfInBounds_toArray, List.set_cons_zero, List.set_cons_succ]
                  refine wpAnyH_ready (rs := [8, 13]) (by kernel_rfl) (by simp) ?_
                  refine AllReadyH.cons (o := _) rfl (fun K hK => ?_) (AllReadyH.cons (o := _) rfl (fun K hK => ?_) AllReadyH.nil)
                  · go_simp
                    go_at_call 62
                    refine (HSt.out _ HE2.out.drew).mono ?_
                    rintro e w4 ⟨a1, a2, a3, a4, p1, p2, rfl, hb4⟩
                    have E4 : Below wr.heap.size wr w4 := (Below.refl _ wr).drew.trans hb4
                    go_wp2_with fail
                    refine hK.out _ _ ?_ (fun hHeld => ?_)
                    · exact RhS.keep hB (E4) (show w.heap.size + 1 < wr.heap.size by omega) (show w1.heap.size < wr.heap.size by omega) (show b < wr.heap.size by omega)
                    clear hK K
                    try simp only [Act.put, List.setIfInBounds_toArray, List.set_cons_zero, List.set_cons_succ]
                    refine wpAnyH_take (i := 9) (oi := _) (v := ?_) rfl (by kernel_rfl) (by kernel_rfl) (by kernel_rfl) (fun _ _ _ h => h) (Or.inl ⟨by kernel_rfl, ?_⟩) hHeld ?_
                    rotate_left
                    · (intro w hSw; (obtain ⟨a0, a1, a2, a3, a4, a5, a6, a7, a8, a9, a10, a11, a12, a13⟩ := hSw); go_simp; try (with_reducible rfl))
                    simp only [Act.put, List.setIfInBounds_toArray, List.set_cons_zero, List.set_cons_succ]
                    refine wpAnyH_take (i := 10) (oi := _) (v := ?_) rfl (by kernel_rfl) (by kernel_rfl) (by kernel_rfl) (fun _ _ _ h => h) (Or.inl ⟨by kernel_rfl, ?_⟩) hHeld ?_
                    rotate_left
                    · (intro w hSw; (obtain ⟨a0, a1, a2, a3, a4, a5, a6, a7, a8, a9, a10, a11, a12, a13⟩ := hSw); go_simp; try (with_reducible rfl))
                    simp only [Act.put, List.setIfInBounds_toArray, List.set_cons_zero, List.set_cons_succ]
                    refine wpAnyH_take (i := 11) (oi := _) (v := ?_) rfl (by kernel_rfl) (by kernel_rfl) (by kernel_rfl) (fun _ _ _ h => h) (Or.inl ⟨by kernel_rfl, ?_⟩) hHeld ?_
                    rotate_left
                    · (intro w hSw; (obtain ⟨a0, a1, a2, a3, a4, a5, a6, a7, a8, a9, a10, a11, a12, a13⟩ := hSw); go_simp; try (with_reducible rfl))
                    simp only [Act.put, List.setIfInBounds_toArray, List.set_cons_zero, List.set_cons_succ]
                    refine wpAnyH_take (i := 12) (oi := _) (v := ?_) rfl (by kernel_rfl) (by kernel_rfl) (by kernel_rfl) (fun _ _ _ h => h) (Or.inl ⟨by kernel_rfl, ?_⟩) hHeld ?_
                    rotate_left
                    · (intro w hSw; (obtain ⟨a0, a1, a2, a3, a4, a5, a6, a7, a8, a9, a10, a11, a12, a13⟩ := hSw); go_simp; try (with_reducible rfl))
                    simp only [Act.put, List.setIfInBounds_toArray, List.set_cons_zero, List.set_cons_succ]
                    refine wpAnyH_ready (rs := [13]) (by kernel_rfl) (by simp) ?_
                    refine AllReadyH.cons (o := _) rfl (fun K hK => ?_) AllReadyH.nil
                    go_simp
                    refine hK.out _ _ ?_ (fun hHeld => ?_)
                    · exact RhS.keep hB (E4.alloc E4.size _) (show w.heap.size + 1 < wr.heap.size by omega) (show w1.heap.size < wr.heap.size by omega) (show b < wr.heap.size by omega)
                    clear hK K
                    try simp only [Act.put, List.setIfInBounds_toArray, List.set_cons_zero, List.set_cons_succ]
                    refine wpAnyH_ready (rs := [14]) (by kernel_rfl) (by simp) ?_
                    refine AllReadyH.cons (o := _) rfl (fun K hK => ?_) AllReadyH.nil
                    go_simp
                    refine hK.out _ _ ?_ (fun hHeld => ?_)
                    · exact RhS.keep hB (E4.alloc E4.size _) (show w.heap.size + 1 < wr.heap.size by omega) (show w1.heap.size < wr.heap.size by omega) (show b < wr.heap.size by omega)
                    clear hK K
                    try simp only [Act.put, List.setIfInBounds_toArray, List.set_cons_zero, List.set_cons_succ]
                    refine wpAnyH_ready (rs := [15]) (by kernel_rfl) (by simp) ?_
                    refine AllReadyH.cons (o := _) rfl (fun K hK => ?_) AllReadyH.nil
                    go_simp
                    refine hK.out _ _ ?_ (fun hHeld => ?_)
                    · assumption
                    clear hK K
                    try simp only [Act.put, List.setIfInBounds_toArray, List.set_cons_zero, List.set_cons_succ]
                    refine wpAnyH_ready (rs := [16]) (by kernel_rfl) (by simp) ?_
                    refine AllReadyH.cons (o := _) rfl (fun K hK => ?_) AllReadyH.nil
                    go_simp
                    refine hK.out _ _ ?_ (fun hHeld => ?_)
                    · assumption
                    clear hK K
                    try simp only [Act.put, List.setIfInBounds_toArray, List.set_cons_zero, List.set_cons_succ]
                    refine wpAnyH_done (by kernel_rfl) ?_ _
                    go_wp2_with fail
                    go_meet
                    case rel => exact ⟨w4.heap.size, _, rfl, rfl, rfl, E4.alloc E4.size _⟩
                  · go_simp
                    refine hK.out _ _ ?_ (fun hHeld => ?_)
                    · exact RhS.keep hB ((Below.refl _ wr).drew.alloc (Nat.le_refl _) _) (show w.heap.size + 1 < wr.heap.size by omega) (show w1.heap.size < wr.heap.size by omega) (show b < wr.heap.size by omega)
                    clear hK K
                    try simp only [Act.put, List.setIfInBounds_toArray, List.set_cons_zero, List.set_cons_succ]
                    refine wpAnyH_ready (rs := [8]) (by kernel_rfl) (by simp) ?_
                    refine AllReadyH.cons (o := _) rfl (fun K hK => ?_) AllReadyH.nil
                    go_simp
                    go_at_call 62
                    refine (HSt.out _ (HE2.out.drew.alloc HE2.out.size _)).mono ?_
                    rintro e w4 ⟨a1, a2, a3, a4, p1, p2, rfl, hb4⟩
                    have E4 : Below wr.heap.size wr w4 := ((Below.refl _ wr).drew.alloc (Nat.le_refl _) _).trans (hb4.mono (by simp))
                    have n4 : w4.heap[wr.heap.size]? = some (hangO ⟨0, 0, 0, 0, false, false⟩) := (hb4.block _ (by simp)).trans (heap_alloc_new wr.drew _)
                    have ⟨⟨t0, t1, t2, t3, t4⟩, ⟨f0, f1, f2, f3, f4⟩⟩ := hang_cells n4
                    have u4 := blk_lt n4
                    go_wp2_with fail
                    refine hK.out _ _ ?_ (fun hHeld => ?_)
                    · exact RhS.keep hB (E4) (show w.heap.size + 1 < wr.heap.size by omega) (show w1.heap.size < wr.heap.size by omega) (show b < wr.heap.size by omega)
                    clear hK K
                    try simp only [Act.put, List.setIfInBounds_toArray, List.set_cons_zero, List.set_cons_succ]
                    refine wpAnyH_take (i := 9) (oi := _) (v := ?_) rfl (by kernel_rfl) (by kernel_rfl) (by kernel_rfl) (fun _ _ _ h => h) (Or.inl ⟨by kernel_rfl, ?_⟩) hHeld ?_
                    rotate_left
                    · (intro w hSw; (obtain ⟨a0, a1, a2, a3, a4, a5, a6, a7, a8, a9, a10, a11, a12, a13⟩ := hSw); go_simp; try (with_reducible rfl))
                    simp only [Act.put, List.setIfInBounds_toArray, List.set_cons_zero, List.set_cons_succ]
                    refine wpAnyH_take (i := 10) (oi := _) (v := ?_) rfl (by kernel_rfl) (by kernel_rfl) (by kernel_rfl) (fun _ _ _ h => h) (Or.inl ⟨by kernel_rfl, ?_⟩) hHeld ?_
                    rotate_left
                    · (intro w hSw; (obtain ⟨a0, a1, a2, a3, a4, a5, a6, a7, a8, a9, a10, a11, a12, a13⟩ := hSw); go_simp; try (with_reducible rfl))
                    simp only [Act.put, List.setIfInBounds_toArray, List.set_cons_zero, List.set_cons_succ]
                    refine wpAnyH_take (i := 11) (oi := _) (v := ?_) rfl (by kernel_rfl) (by kernel_rfl) (by kernel_rfl) (fun _ _ _ h => h) (Or.inl ⟨by kernel_rfl, ?_⟩) hHeld ?_
                    rotate_left
                    · (intro w hSw; (obtain ⟨a0, a1, a2, a3, a4, a5, a6, a7, a8, a9, a10, a11, a12, a13⟩ := hSw); go_simp; try (with_reducible rfl))
                    simp only [Act.put, List.setIfInBounds_toArray, List.set_cons_zero, List.set_cons_succ]
                    refine wpAnyH_take (i := 12) (oi := _) (v := ?_) rfl (by kernel_rfl) (by kernel_rfl) (by kernel_rfl) (fun _ _ _ h => h) (Or.inl ⟨by kernel_rfl, ?_⟩) hHeld ?_
                    rotate_left
                    · (intro w hSw; (obtain ⟨a0, a1, a2, a3, a4, a5, a6, a7, a8, a9, a10, a11, a12, a13⟩ := hSw); go_simp; try (with_reducible rfl))
                    simp only [Act.put, List.setIfInBounds_toArray, List.set_cons_zero, List.set_cons_succ]
                    refine wpAnyH_ready (rs := [14]) (by kernel_rfl) (by simp) ?_
                    refine AllReadyH.cons (o := _) rfl (fun K hK => ?_) AllReadyH.nil
                    go_simp
                    refine hK.out _ _ ?_ (fun hHeld => ?_)
                    · exact RhS.keep hB (set5 E4 (Nat.le_refl _) _ _ _ _ _) (show w.heap.size + 1 < wr.heap.size by omega) (show w1.heap.size < wr.heap.size by omega) (show b < wr.heap.size by omega)
                    clear hK K
                    try simp only [Act.put, List.setIfInBounds_toArray, List.set_cons_zero, List.set_cons_succ]
                    refine wpAnyH_ready (rs := [15]) (by kernel_rfl) (by simp) ?_
                    refine AllReadyH.cons (o := _) rfl (fun K hK => ?_) AllReadyH.nil
                    go_simp
                    refine hK.out _ _ ?_ (fun hHeld => ?_)
                    · assumption
                    clear hK K
                    try simp only [Act.put, List.setIfInBounds_toArray, List.set_cons_zero, List.set_cons_succ]
                    refine wpAnyH_ready (rs := [16]) (by kernel_rfl) (by simp) ?_
                    refine AllReadyH.cons (o := _) rfl (fun K hK => ?_) AllReadyH.nil
                    go_simp
                    refine hK.out _ _ ?_ (fun hHeld => ?_)
                    · assumption
                    clear hK K
                    try simp only [Act.put, List.setIfInBounds_toArray, List.set_cons_zero, List.set_cons_succ]
                    refine wpAnyH_done (by kernel_rfl) ?_ _
                    go_wp2_with fail
                    go_meet
                    case rel => exact ⟨wr.heap.size, _, rfl, rfl, rfl, set5 E4 (Nat.le_refl _) _ _ _ _ _⟩
                case rest =>
                  as_aux_lemma =>
                  obtain ⟨B, t, rfl, rfl, rfl, hBl⟩ := hcut
                  have hbw4 := hbw.trans (hBl.mono (by omega))
                  have E4 := B3.trans (hbw4.mono (by omega))
                  obtain ⟨hres, uR⟩ := haW_res hbw4
                  obtain ⟨⟨t0, t1, t2, t3, t4⟩, ⟨f0, f1, f2, f3, f4⟩⟩ := hang_cells hres
                  clear hres
                  go_wp2_with fail
                  refine bodyPost_ret (v := .tuple #[.agg #[.int .i64 0, .int .i64 0, .int .i64 0, .int .i64 0, .bool false], .int .i64 k, .int .i64 72]) (by simp [results, Try.results26, go_sem, t0, t1, t2, t3, t4, uR]) rfl ⟨?_, ?_⟩
                  · rw [Hr.out, Hnx.out, Hd.out]; rfl
                  · exact set5 E4 (by omega) _ _ _ _ _
              | some s' =>
                have HSt := Lib.hid (fun (W : World) (hb : Below w.heap.size w W) => (hst W hb).mono (fun e w' h => StepPost.some' hd h))
                have hv' : Vd cable (k + 1) s' := doO_valid (charge := charge) (by omega) Hv.out (by rw [do_ref HO.out Hv.out]; exact hd)
                have Hv' := Lib.hid hv'
                have Hd := Lib.hid hd
                have bq : b < wr.heap.size := hb
                clear hst hd hv'
                go_wp2_with fail
                go_cut [13, 14, 15] (fun s13 s14 s15 wx => ∃ B, s13 = .pointer (some ⟨B, 0, none⟩) ∧ s14 = .bool s'.t ∧ s15 = .bool true ∧ wx.heap[B]? = some (hangO s') ∧ Below wr.heap.size wr wx)
                case first =>
                  as_aux_lemma =>
                  have hB : RhS cable vX vY vV charge lo hi s x y w.heap.size w1.heap.size b (o + k * 2) wr := ⟨q0, q1, q2, q3, q4, q5, q6, d0, d1, d2, d3, d4, hcell0, hcell1⟩
                  refine wp_region_held_drew (S := fun w' => RhS cable vX vY vV charge lo hi s x y w.heap.size w1.heap.size b (o + k * 2) w') (by kernel_rfl) (RhS.keep hB ((Below.refl _ wr).drew) (show w.heap.size + 1 < wr.heap.size by omega) (show w1.heap.size < wr.heap.size by omega) (show b < wr.heap.size by omega)) (fun hHeld => ?_)
                  refine wpAnyH_take (i := 0) (oi := _) (v := ?_) rfl (by kernel_rfl) (by kernel_rfl) (by kernel_rfl) (fun _ _ _ h => h) (Or.inl ⟨by kernel_rfl, ?_⟩) hHeld ?_
                  rotate_left
                  · (intro w hSw; (obtain ⟨a0, a1, a2, a3, a4, a5, a6, a7, a8, a9, a10, a11, a12, a13⟩ := hSw); go_simp; try (with_reducible rfl))
                  simp only [Act.put, List.setIfInBounds_toArray, List.set_cons_zero, List.set_cons_succ]
                  refine wpAnyH_take (i := 1) (oi := _) (v := ?_) rfl (by kernel_rfl) (by kernel_rfl) (by kernel_rfl) (fun _ _ _ h => h) (Or.inl ⟨by kernel_rfl, ?_⟩) hHeld ?_
                  rotate_left
                  · (intro w hSw; (obtain ⟨a0, a1, a2, a3, a4, a5, a6, a7, a8, a9, a10, a11, a12, a13⟩ := hSw); go_simp; try (with_reducible rfl))
                  simp only [Act.put, List.setIfInBounds_toArray, List.set_cons_zero, List.set_cons_succ]
                  refine wpAnyH_take (i := 2) (oi := _) (v := ?_) rfl (by kernel_rfl) (by kernel_rfl) (by kernel_rfl) (fun _ _ _ h => h) (Or.inl ⟨by kernel_rfl, ?_⟩) hHeld ?_
                  rotate_left
                  · (intro w hSw; (obtain ⟨a0, a1, a2, a3, a4, a5, a6, a7, a8, a9, a10, a11, a12, a13⟩ := hSw); go_simp; try (with_reducible rfl))
                  simp only [Act.put, List.setIfInBounds_toArray, List.set_cons_zero, List.set_cons_succ]
                  refine wpAnyH_take (i := 3) (oi := _) (v := ?_) rfl (by kernel_rfl) (by kernel_rfl) (by kernel_rfl) (fun _ _ _ h => h) (Or.inl ⟨by kernel_rfl, ?_⟩) hHeld ?_
                  rotate_left
                  · (intro w hSw; (obtain ⟨a0, a1, a2, a3, a4, a5, a6, a7, a8, a9, a10, a11, a12, a13⟩ := hSw); go_simp; try (with_reducible rfl))
                  simp only [Act.put, List.setIfInBounds_toArray, List.set_cons_zero, List.set_cons_succ]
                  refine wpAnyH_take (i := 4) (oi := _) (v := ?_) rfl (by kernel_rfl) (by kernel_rfl) (by kernel_rfl) (fun _ _ _ h => h) (Or.inl ⟨by kernel_rfl, ?_⟩) hHeld ?_
                  rotate_left
                  · (intro w hSw; (obtain ⟨a0, a1, a2, a3, a4, a5, a6, a7, a8, a9, a10, a11, a12, a13⟩ := hSw); go_simp; try (with_reducible rfl))
                  simp only [Act.put, List.setIfInBounds_toArray, List.set_cons_zero, List.set_cons_succ]
                  refine wpAnyH_take (i := 5) (oi := _) (v := ?_) rfl (by kernel_rfl) (by kernel_rfl) (by kernel_rfl) (fun _ _ _ h => h) (Or.inl ⟨by kernel_rfl, ?_⟩) hHeld ?_
                  rotate_left
                  · (intro w hSw; (obtain ⟨a0, a1, a2, a3, a4, a5, a6, a7, a8, a9, a10, a11, a12, a13⟩ := hSw); go_simp; try (with_reducible rfl))
                  simp only [Act.put, List.setIfInBounds_toArray, List.set_cons_zero, List.set_cons_succ]
                  refine wpAnyH_take (i := 6) (oi := _) (v := ?_) rfl (by kernel_rfl) (by kernel_rfl) (by kernel_rfl) (fun _ _ _ h => h) (Or.inl ⟨by kernel_rfl, ?_⟩) hHeld ?_
                  rotate_left
                  · (intro w hSw; (obtain ⟨a0, a1, a2, a3, a4, a5, a6, a7, a8, a9, a10, a11, a12, a13⟩ := hSw); go_simp; try (with_reducible rfl))
                  simp only [Act.put, List.setIfInBounds_toArray, List.set_cons_zero, List.set_cons_succ]
                  refine wpAnyH_take (i := 7) (oi := _) (v := ?_) rfl (by kernel_rfl) (by kernel_rfl) (by kernel_rfl) (fun _ _ _ h => h) (Or.inl ⟨by kernel_rfl, ?_⟩) hHeld ?_
                  rotate_left
                  · (intro w hSw; (obtain ⟨a0, a1, a2, a3, a4, a5, a6, a7, a8, a9, a10, a11, a12, a13⟩ := hSw); go_simp; try (with_reducible rfl))
                  simp only [Act.put, List.setIfInBounds_toArray, List.set_cons_zero, List.set_cons_succ]
                  refine wpAnyH_ready (rs := [8, 13]) (by kernel_rfl) (by simp) ?_
                  refine AllReadyH.cons (o := _) rfl (fun K hK => ?_) (AllReadyH.cons (o := _) rfl (fun K hK => ?_) AllReadyH.nil)
                  · go_simp
                    go_at_call 62
                    refine (HSt.out _ HE2.out.drew).mono ?_
                    rintro e w4 ⟨rfl, hb4⟩
                    have E4 : Below wr.heap.size wr w4 := (Below.refl _ wr).drew.trans hb4
                    go_wp2_with fail
                    refine hK.out _ _ ?_ (fun hHeld => ?_)
                    · exact RhS.keep hB (E4) (show w.heap.size + 1 < wr.heap.size by omega) (show w1.heap.size < wr.heap.size by omega) (show b < wr.heap.size by omega)
                    clear hK K
                    try simp only [Act.put, List.setIfInBounds_toArray, List.set_cons_zero, List.set_cons_succ]
                    refine wpAnyH_take (i := 9) (oi := _) (v := ?_) rfl (by kernel_rfl) (by kernel_rfl) (by kernel_rfl) (fun _ _ _ h => h) (Or.inl ⟨by kernel_rfl, ?_⟩) hHeld ?_
                    rotate_left
                    · (intro w hSw; (obtain ⟨a0, a1, a2, a3, a4, a5, a6, a7, a8, a9, a10, a11, a12, a13⟩ := hSw); go_simp; try (with_reducible rfl))
                    simp only [Act.put, List.setIfInBounds_toArray, List.set_cons_zero, List.set_cons_succ]
                    refine wpAnyH_take (i := 10) (oi := _) (v := ?_) rfl (by kernel_rfl) (by kernel_rfl) (by kernel_rfl) (fun _ _ _ h => h) (Or.inl ⟨by kernel_rfl, ?_⟩) hHeld ?_
                    rotate_left
                    · (intro w hSw; (obtain ⟨a0, a1, a2, a3, a4, a5, a6, a7, a8, a9, a10, a11, a12, a13⟩ := hSw); go_simp; try (with_reducible rfl))
                    simp only [Act.put, List.setIfInBounds_toArray, List.set_cons_zero, List.set_cons_succ]
                    refine wpAnyH_take (i := 11) (oi := _) (v := ?_) rfl (by kernel_rfl) (by kernel_rfl) (by kernel_rfl) (fun _ _ _ h => h) (Or.inl ⟨by kernel_rfl, ?_⟩) hHeld ?_
                    rotate_left
                    · (intro w hSw; (obtain ⟨a0, a1, a2, a3, a4, a5, a6, a7, a8, a9, a10, a11, a12, a13⟩ := hSw); go_simp; try (with_reducible rfl))
                    simp only [Act.put, List.setIfInBounds_toArray, List.set_cons_zero, List.set_cons_succ]
                    refine wpAnyH_take (i := 12) (oi := _) (v := ?_) rfl (by kernel_rfl) (by kernel_rfl) (by kernel_rfl) (fun _ _ _ h => h) (Or.inl ⟨by kernel_rfl, ?_⟩) hHeld ?_
                    rotate_left
                    · (intro w hSw; (obtain ⟨a0, a1, a2, a3, a4, a5, a6, a7, a8, a9, a10, a11, a12, a13⟩ := hSw); go_simp; try (with_reducible rfl))
                    simp only [Act.put, List.setIfInBounds_toArray, List.set_cons_zero, List.set_cons_succ]
                    refine wpAnyH_ready (rs := [13]) (by kernel_rfl) (by simp) ?_
                    refine AllReadyH.cons (o := _) rfl (fun K hK => ?_) AllReadyH.nil
                    go_simp
                    refine hK.out _ _ ?_ (fun hHeld => ?_)
                    · exact RhS.keep hB (E4.alloc E4.size _) (show w.heap.size + 1 < wr.heap.size by omega) (show w1.heap.size < wr.heap.size by omega) (show b < wr.heap.size by omega)
                    clear hK K
                    try simp only [Act.put, List.setIfInBounds_toArray, List.set_cons_zero, List.set_cons_succ]
                    refine wpAnyH_ready (rs := [14]) (by kernel_rfl) (by simp) ?_
                    refine AllReadyH.cons (o := _) rfl (fun K hK => ?_) AllReadyH.nil
                    go_simp
                    refine hK.out _ _ ?_ (fun hHeld => ?_)
                    · exact RhS.keep hB (E4.alloc E4.size _) (show w.heap.size + 1 < wr.heap.size by omega) (show w1.heap.size < wr.heap.size by omega) (show b < wr.heap.size by omega)
                    clear hK K
                    try simp only [Act.put, List.setIfInBounds_toArray, List.set_cons_zero, List.set_cons_succ]
                    refine wpAnyH_ready (rs := [15]) (by kernel_rfl) (by simp) ?_
                    refine AllReadyH.cons (o := _) rfl (fun K hK => ?_) AllReadyH.nil
                    go_simp
                    refine hK.out _ _ ?_ (fun hHeld => ?_)
                    · assumption
                    clear hK K
                    try simp only [Act.put, List.setIfInBounds_toArray, List.set_cons_zero, List.set_cons_succ]
                    refine wpAnyH_ready (rs := [16]) (by kernel_rfl) (by simp) ?_
                    refine AllReadyH.cons (o := _) rfl (fun K hK => ?_) AllReadyH.nil
                    go_simp
                    refine hK.out _ _ ?_ (fun hHeld => ?_)
                    · assumption
                    clear hK K
                    try simp only [Act.put, List.setIfInBounds_toArray, List.set_cons_zero, List.set_cons_succ]
                    refine wpAnyH_done (by kernel_rfl) ?_ _
                    go_wp2_with fail
                    go_meet
                    case rel => exact ⟨w4.heap.size, rfl, rfl, rfl, heap_alloc_new _ _, E4.alloc E4.size _⟩
                  · go_simp
                    refine hK.out _ _ ?_ (fun hHeld => ?_)
                    · exact RhS.keep hB ((Below.refl _ wr).drew.alloc (Nat.le_refl _) _) (show w.heap.size + 1 < wr.heap.size by omega) (show w1.heap.size < wr.heap.size by omega) (show b < wr.heap.size by omega)
                    clear hK K
                    try simp only [Act.put, List.setIfInBounds_toArray, List.set_cons_zero, List.set_cons_succ]
                    refine wpAnyH_ready (rs := [8]) (by kernel_rfl) (by simp) ?_
                    refine AllReadyH.cons (o := _) rfl (fun K hK => ?_) AllReadyH.nil
                    go_simp
                    go_at_call 62
                    refine (HSt.out _ (HE2.out.drew.alloc HE2.out.size _)).mono ?_
                    rintro e w4 ⟨rfl, hb4⟩
                    have E4 : Below wr.heap.size wr w4 := ((Below.refl _ wr).drew.alloc (Nat.le_refl _) _).trans (hb4.mono (by simp))
                    have n4 : w4.heap[wr.heap.size]? = some (hangO ⟨0, 0, 0, 0, false, false⟩) := (hb4.block _ (by simp)).trans (heap_alloc_new wr.drew _)
                    have ⟨⟨t0, t1, t2, t3, t4⟩, ⟨f0, f1, f2, f3, f4⟩⟩ := hang_cells n4
                    have u4 := blk_lt n4
                    go_wp2_with fail
                    refine hK.out _ _ ?_ (fun hHeld => ?_)
                    · exact RhS.keep hB (E4) (show w.heap.size + 1 < wr.heap.size by omega) (show w1.heap.size < wr.heap.size by omega) (show b < wr.heap.size by omega)
                    clear hK K
                    try simp only [Act.put, List.setIfInBounds_toArray, List.set_cons_zero, List.set_cons_succ]
                    refine wpAnyH_take (i := 9) (oi := _) (v := ?_) rfl (by kernel_rfl) (by kernel_rfl) (by kernel_rfl) (fun _ _ _ h => h) (Or.inl ⟨by kernel_rfl, ?_⟩) hHeld ?_
                    rotate_left
                    · (intro w hSw; (obtain ⟨a0, a1, a2, a3, a4, a5, a6, a7, a8, a9, a10, a11, a12, a13⟩ := hSw); go_simp; try (with_reducible rfl))
                    simp only [Act.put, List.setIfInBounds_toArray, List.set_cons_zero, List.set_cons_succ]
                    refine wpAnyH_take (i := 10) (oi := _) (v := ?_) rfl (by kernel_rfl) (by kernel_rfl) (by kernel_rfl) (fun _ _ _ h => h) (Or.inl ⟨by kernel_rfl, ?_⟩) hHeld ?_
                    rotate_left
                    · (intro w hSw; (obtain ⟨a0, a1, a2, a3, a4, a5, a6, a7, a8, a9, a10, a11, a12, a13⟩ := hSw); go_simp; try (with_reducible rfl))
                    simp only [Act.put, List.setIfInBounds_toArray, List.set_cons_zero, List.set_cons_succ]
                    refine wpAnyH_take (i := 11) (oi := _) (v := ?_) rfl (by kernel_rfl) (by kernel_rfl) (by kernel_rfl) (fun _ _ _ h => h) (Or.inl ⟨by kernel_rfl, ?_⟩) hHeld ?_
                    rotate_left
                    · (intro w hSw; (obtain ⟨a0, a1, a2, a3, a4, a5, a6, a7, a8, a9, a10, a11, a12, a13⟩ := hSw); go_simp; try (with_reducible rfl))
                    simp only [Act.put, List.setIfInBounds_toArray, List.set_cons_zero, List.set_cons_succ]
                    refine wpAnyH_take (i := 12) (oi := _) (v := ?_) rfl (by kernel_rfl) (by kernel_rfl) (by kernel_rfl) (fun _ _ _ h => h) (Or.inl ⟨by kernel_rfl, ?_⟩) hHeld ?_
                    rotate_left
                    · (intro w hSw; (obtain ⟨a0, a1, a2, a3, a4, a5, a6, a7, a8, a9, a10, a11, a12, a13⟩ := hSw); go_simp; try (with_reducible rfl))
                    simp only [Act.put, List.setIfInBounds_toArray, List.set_cons_zero, List.set_cons_succ]
                    refine wpAnyH_ready (rs := [14]) (by kernel_rfl) (by simp) ?_
                    refine AllReadyH.cons (o := _) rfl (fun K hK => ?_) AllReadyH.nil
                    go_simp
                    refine hK.out _ _ ?_ (fun hHeld => ?_)
                    · exact RhS.keep hB (set5 E4 (Nat.le_refl _) _ _ _ _ _) (show w.heap.size + 1 < wr.heap.size by omega) (show w1.heap.size < wr.heap.size by omega) (show b < wr.heap.size by omega)
                    clear hK K
                    try simp only [Act.put, List.setIfInBounds_toArray, List.set_cons_zero, List.set_cons_succ]
                    refine wpAnyH_ready (rs := [15]) (by kernel_rfl) (by simp) ?_
                    refine AllReadyH.cons (o := _) rfl (fun K hK => ?_) AllReadyH.nil
                    go_simp
                    refine hK.out _ _ ?_ (fun hHeld => ?_)
                    · assumption
                    clear hK K
                    try simp only [Act.put, List.setIfInBounds_toArray, List.set_cons_zero, List.set_cons_succ]
                    refine wpAnyH_ready (rs := [16]) (by kernel_rfl) (by simp) ?_
                    refine AllReadyH.cons (o := _) rfl (fun K hK => ?_) AllReadyH.nil
                    go_simp
                    refine hK.out _ _ ?_ (fun hHeld => ?_)
                    · assumption
                    clear hK K
                    try simp only [Act.put, List.setIfInBounds_toArray, List.set_cons_zero, List.set_cons_succ]
                    refine wpAnyH_done (by kernel_rfl) ?_ _
                    go_wp2_with fail
                    go_meet
                    case rel => exact ⟨wr.heap.size, rfl, rfl, rfl, set5_new (n4) s', set5 E4 (Nat.le_refl _) _ _ _ _ _⟩
                case rest =>
                  as_aux_lemma =>
                  obtain ⟨B, rfl, rfl, rfl, hBs, hBl⟩ := hcut
                  have ⟨⟨t0, t1, t2, t3, t4⟩, ⟨f0, f1, f2, f3, f4⟩⟩ := hang_cells hBs
                  have uB := blk_lt hBs
                  have hN2 := (hBl.block w1.heap.size (by omega)).trans Hgs.out
                  have ⟨⟨g0, g1, g2, g3, g4⟩, ⟨j0, j1, j2, j3, j4⟩⟩ := hang_cells hN2
                  have uN := blk_lt hN2
                  have HN2 := Lib.hid hN2
                  have zB := hBl.size
                  clear hBs hN2
                  go_wp2_with fail
                  go_roundw
                  case rel => exact ⟨k + 1, s', by go_num, rfl, by omega, Hv'.out, by rw [Hnx.out, Hd.out], set5_new HN2.out s', set5 (hbl.trans (hBl.mono (by omega))) (Nat.le_refl _) _ _ _ _ _⟩
                  case measure => simp [intOf]; omega
            · obtain rfl : k = l.length := by omega
              have hrn : runO (refO cable X Y V charge lo hi) h0 0 l = .inl s := by rw [Hrun.out, List.drop_length]; rfl
              have Hrn := Lib.hid hrn
              clear hrn
              obtain ⟨hres, uR⟩ := haW_res hbw
              obtain ⟨⟨t0, t1, t2, t3, t4⟩, ⟨f0, f1, f2, f3, f4⟩⟩ := hang_cells hres
              clear hres
              go_wp2_with fail
              refine bodyPost_ret (v := .tuple #[.agg #[.int .i64 s.L, .int .i64 s.W, .int .i64 s.S, .int .i64 s.C, .bool s.cut], .int .i64 0, .int .i64 0]) (by simp [results, Try.results26, go_sem, t0, t1, t2, t3, t4, uR]) rfl ⟨?_, ?_⟩
              · rw [Hr.out, Hrn.out]; rfl
              · exact set5 E2 (by omega) _ _ _ _ _
        · have Hr := Lib.hid (show haulS cable X Y V charge lo hi l = (h0, 0, windsE cable X Y V charge lo hi) by rw [haulS, if_neg (by rintro (a | a); exact h1 a; exact h2 a), if_neg h3, if_pos h4])
          have e4 : (windsE cable X Y V charge lo hi != 0) = true := by simpa using h4
          clear h1 h2 h3
          go_enter Try.func26, Try.ntmps26
          go_wp2_with fail
          refine hN.mono ?_
          rintro e w1 ⟨rfl, hb1⟩
          have E1 := B3.trans (hb1.mono B3.size)
          rw [z3] at hb1
          obtain ⟨hres, uR⟩ := haW_res hb1
          obtain ⟨⟨t0, t1, t2, t3, t4⟩, ⟨f0, f1, f2, f3, f4⟩⟩ := hang_cells hres
          clear hres hb1
          go_wp2_with fail
          refine bodyPost_ret (v := .tuple #[.agg #[.int .i64 0, .int .i64 0, .int .i64 0, .int .i64 0, .bool false], .int .i64 0, .int .i64 (windsE cable X Y V charge lo hi)]) (by simp [results, Try.results26, go_sem, t0, t1, t2, t3, t4, uR]) rfl ⟨by rw [Hr.out]; rfl, ?_⟩
          exact set5 E1 (by omega) _ _ _ _ _

end Go.Proofs.Ytliddinpfgpnfaa
