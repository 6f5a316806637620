/- Contracts: Reach and Witness. -/
import Derived.Test.YtliddinpfgpnfaaA39
import Derived.Deep.RegionHeld
import Derived.BigRegion
namespace Go.Proofs.Ytliddinpfgpnfaa
open Go Go.RowKit Go.Sort
set_option linter.unusedSimpArgs false
set_option linter.unusedVariables false

def reachP (num damp D : Int) (bs : List (Int × Int)) (g : Int × Int) (n : Int) (high : Bool) : Int × Int :=
  if setsE num damp D bs g n [] = 0 then lowP (mostN num damp D (bs.getD 0 (0, 0)) (bs.getD 1 (0, 0)) g n.toNat high) (D ^ n.toNat) else (0, 0)

def ReachV (num damp D : Int) (bs : List (Int × Int)) (g : Int × Int) (n : Int) : Value := .tuple #[pairV (reachP num damp D bs g n false), pairV (reachP num damp D bs g n true), .int .i64 (setsE num damp D bs g n [])]

abbrev rW (num damp D gl gh : Int) (w : World) : World := (((w.alloc (.cells #[.int .i64 num, .int .i64 damp, .int .i64 D] 23)).alloc (.cells #[.int .i64 gl, .int .i64 gh] 27)).alloc (.cells #[.int .i64 0, .int .i64 0] 24)).alloc (.cells #[.int .i64 0, .int .i64 0] 24)

theorem rW_cells (num damp D gl gh : Int) (w : World) : (rW num damp D gl gh w).heap[w.heap.size + 1 + 1]? = some (.cells #[.int .i64 0, .int .i64 0] 24 (0, 0)) ∧ (rW num damp D gl gh w).heap[w.heap.size + 1 + 1 + 1]? = some (.cells #[.int .i64 0, .int .i64 0] 24 (0, 0)) := by
  have h := heap3 (w.alloc (.cells #[.int .i64 num, .int .i64 damp, .int .i64 D] 23)) (.cells #[.int .i64 gl, .int .i64 gh] 27) (.cells #[.int .i64 0, .int .i64 0] 24) (.cells #[.int .i64 0, .int .i64 0] 24)
  rwa [show (w.alloc (.cells #[.int .i64 num, .int .i64 damp, .int .i64 D] 23)).heap.size = w.heap.size + 1 by simp] at h

theorem two_cells {w : World} {b : Nat} {u v : Value} {T : TypeId} (h : w.heap[b]? = some (.cells #[u, v] T (0, 0))) : w.cell? ⟨b, 0, none⟩ = some u ∧ w.cell? ⟨b, 1, none⟩ = some v ∧ w.frozen? ⟨b, 0, none⟩ = false ∧ w.frozen? ⟨b, 1, none⟩ = false :=
  ⟨(blk_cells h 0).1, (blk_cells h 1).1, (blk_cells h 0).2, (blk_cells h 1).2⟩

set_option maxRecDepth 100000 in
set_option maxHeartbeats 3200000 in
theorem sling_Reach (num damp D : Int) (vb : Value) (bs : List (Int × Int)) (gl gh n : Int) (w : World) (hR : RP w vb bs) (hl : bs.length ≤ 1000000000000000000) :
    Calls Try.prog 30 #[.agg #[.int .i64 num, .int .i64 damp, .int .i64 D], vb, .agg #[.int .i64 gl, .int .i64 gh], .int .i64 n] w (AllBelow (ReachV num damp D bs (gl, gh) n) w) := by
  have HV := Lib.hid (show ReachV num damp D bs (gl, gh) n = .tuple #[pairV (reachP num damp D bs (gl, gh) n false), pairV (reachP num damp D bs (gl, gh) n true), .int .i64 (setsE num damp D bs (gl, gh) n [])] from rfl)
  obtain ⟨A, c, rfl, hc⟩ := hR.form
  have HN := fun (W : World) (hW : Below w.heap.size w W) => sling_newSet num damp D (.slice A bs.length c) bs gl gh n (.slice none 0 0) [] W (hR.below hW) hl (RS.nil _ _) (by simp)
  have B4 : ∀ o1 o2 o3 o4, Below w.heap.size w ((((w.alloc o1).alloc o2).alloc o3).alloc o4) := fun o1 o2 o3 o4 => ((((Below.refl _ _).alloc (Nat.le_refl _) _).alloc (by simp) _).alloc (by simp; omega) _).alloc (by simp; omega) _
  by_cases hE : setsE num damp D bs (gl, gh) n [] = 0
  · have HE := Lib.hid hE
    clear hE
    obtain ⟨l0, h0, l1, h1, m, hr⟩ := sets_zero HE.out
    obtain ⟨rfl, rfl, hm, hok, hS, _, _, _, _, _, _, hlim⟩ := hr
    have hK := Lib.hid (show ∀ high, reachP num damp D [(l0, h0), (l1, h1)] (gl, gh) m high = lowP (mostN num damp D (l0, h0) (l1, h1) (gl, gh) m high) (D ^ m) by
      intro high; rw [reachP, if_pos HE.out]; rfl)
    obtain ⟨p1, p2⟩ := pow_small D hok.1 hok.2.1 m hm
    have s0 := sum_abs hok hS (k := m + 2) hm (by omega) false
    have s1 := sum_abs hok hS (k := m + 2) hm (by omega) true
    have HKc := fun (L : Nat) (high : Bool) (W : World) (hW : W.heap[L]? = some (setC num damp D (.slice A 2 c) gl gh)) (hRW : RP W (.slice A 2 c) [(l0, h0), (l1, h1)]) => sling_most L num damp D gl gh l0 h0 l1 h1 (.slice A 2 c) m high W hW hRW hok hm hS
    have HM0 := Lib.hid (show sumTo (m + 2) (termN num damp D (l0, h0) (l1, h1) (gl, gh) m false) = mostN num damp D (l0, h0) (l1, h1) (gl, gh) m false from rfl)
    have HM1 := Lib.hid (show sumTo (m + 2) (termN num damp D (l0, h0) (l1, h1) (gl, gh) m true) = mostN num damp D (l0, h0) (l1, h1) (gl, gh) m true from rfl)
    rw [HM0.out] at s0
    rw [HM1.out] at s1
    have hKf := hK.out false
    have hKt := hK.out true
    clear hK
    have HK0 := fun L => HKc L false
    have HK1 := fun L => HKc L true
    clear HKc HM0 HM1
    generalize mostN num damp D (l0, h0) (l1, h1) (gl, gh) m false = M0 at *
    generalize mostN num damp D (l0, h0) (l1, h1) (gl, gh) m true = M1 at *
    have HKf := Lib.hid hKf
    have HKt := Lib.hid hKt
    clear hKf hKt
    go_enter Try.func30, Try.ntmps30
    go_wp2_with fail
    refine (HN _ (B4 _ _ _ _)).mono ?_
    rintro e w1 ⟨p, rfl, hb1, hp⟩
    obtain ⟨L, rfl, hL1, hblk⟩ := hp HE.out
    rw [HE.out]
    have E1 := (B4 _ _ _ _).trans (hb1.mono (by simp; omega))
    have Hblk := Lib.hid hblk
    have hbL := hp_lt hblk
    clear hblk hp
    have T2 := (hb1.block (w.heap.size + 1 + 1) (by simp)).trans (rW_cells num damp D gl gh w).1
    have T3 := (hb1.block (w.heap.size + 1 + 1 + 1) (by simp)).trans (rW_cells num damp D gl gh w).2
    have v1 : w.heap.size + 1 + 1 + 1 < w1.heap.size := hp_lt T3
    clear hb1
    go_wp2_with fail
    refine (HK0 L _ Hblk.out (hR.below E1)).mono ?_
    rintro e w2 ⟨rfl, hb2⟩
    have E2 := E1.trans (hb2.mono E1.size)
    go_wp2_with fail
    refine (sling_lowest M0 (D ^ m) _ (by omega) (by omega) (by omega) (by omega)).mono ?_
    rintro e w3 ⟨rfl, hb3⟩
    have E3 := E2.trans (hb3.mono E2.size)
    have F3 := hb2.trans (hb3.mono hb2.size)
    go_wp2_with fail
    refine (HK1 L _ ((F3.block L hbL).trans Hblk.out) (hR.below E3)).mono ?_
    rintro e w4 ⟨rfl, hb4⟩
    have E4 := E3.trans (hb4.mono E3.size)
    have F4 := F3.trans (hb4.mono F3.size)
    go_wp2_with fail
    refine (sling_lowest M1 (D ^ m) _ (by omega) (by omega) (by omega) (by omega)).mono ?_
    rintro e w5 ⟨rfl, hb5⟩
    have E5 := E4.trans (hb5.mono E4.size)
    have F5 := F4.trans (hb5.mono F4.size)
    obtain ⟨x0, x1, y0, y1⟩ := two_cells ((F5.block (w.heap.size + 1 + 1) (by omega)).trans T2)
    obtain ⟨z0, z1, u0, u1⟩ := two_cells ((F5.block (w.heap.size + 1 + 1 + 1) (by omega)).trans T3)
    simp only [lowV]
    go_wp2_with fail
    refine bodyPost_ret (v := .tuple #[lowV M0 (D ^ m), lowV M1 (D ^ m), .int .i64 0]) (by simp [results, Try.results30, go_sem, lowV, x0, x1, z0, z1]) rfl ⟨?_, ?_⟩
    · rw [HV.out, HKf.out, HKt.out, HE.out]; rfl
    · exact (((E5.setCell (p := ⟨w.heap.size + 1 + 1, 0, none⟩) (by dsimp only; omega) _).setCell (p := ⟨w.heap.size + 1 + 1, 1, none⟩) (by dsimp only; omega) _).setCell (p := ⟨w.heap.size + 1 + 1 + 1, 0, none⟩) (by dsimp only; omega) _).setCell (p := ⟨w.heap.size + 1 + 1 + 1, 1, none⟩) (by dsimp only; omega) _
  · have HE := Lib.hid (show ∀ high, reachP num damp D bs (gl, gh) n high = (0, 0) by intro high; rw [reachP, if_neg hE])
    have e1 : (setsE num damp D bs (gl, gh) n [] != 0) = true := by simpa using hE
    clear hE
    go_enter Try.func30, Try.ntmps30
    go_wp2_with fail
    refine (HN _ (B4 _ _ _ _)).mono ?_
    rintro e w1 ⟨p, rfl, hb1, hp⟩
    have E1 := (B4 _ _ _ _).trans (hb1.mono (by simp; omega))
    have T2 := (hb1.block (w.heap.size + 1 + 1) (by simp)).trans (rW_cells num damp D gl gh w).1
    have T3 := (hb1.block (w.heap.size + 1 + 1 + 1) (by simp)).trans (rW_cells num damp D gl gh w).2
    have v1 : w.heap.size + 1 + 1 + 1 < w1.heap.size := hp_lt T3
    obtain ⟨x0, x1, y0, y1⟩ := two_cells T2
    obtain ⟨z0, z1, u0, u1⟩ := two_cells T3
    have v2 : w.heap.size + 1 + 1 < w1.heap.size := by omega
    clear hb1 hp T2 T3
    go_wp2_with fail
    go_region
    go_wp2
    refine bodyPost_ret (v := .tuple #[.agg #[.int .i64 0, .int .i64 0], .agg #[.int .i64 0, .int .i64 0], .int .i64 (setsE num damp D bs (gl, gh) n [])]) (by simp [results, Try.results30, go_sem, x0, x1, z0, z1, v1, v2]) rfl ⟨?_, ?_⟩
    · rw [HV.out, HE.out, HE.out]; rfl
    · exact ((((E1.setCell (p := ⟨w.heap.size + 1 + 1, 0, none⟩) (by dsimp only; omega) _).setCell (p := ⟨w.heap.size + 1 + 1, 1, none⟩) (by dsimp only; omega) _).setCell (p := ⟨w.heap.size + 1 + 1 + 1, 0, none⟩) (by dsimp only; omega) _).setCell (p := ⟨w.heap.size + 1 + 1 + 1, 1, none⟩) (by dsimp only; omega) _).drew

end Go.Proofs.Ytliddinpfgpnfaa
