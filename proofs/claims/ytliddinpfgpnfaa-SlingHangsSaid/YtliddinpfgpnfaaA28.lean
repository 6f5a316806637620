/- Contract: Haul. -/
import Derived.Test.YtliddinpfgpnfaaA27
namespace Go.Proofs.Ytliddinpfgpnfaa
open Go Go.RowKit Go.Sort
set_option linter.unusedSimpArgs false
set_option linter.unusedVariables false

/-- What holds of a hoist behind k steps. -/
structure Vd (cable : Int) (k : Nat) (s : Hg) : Prop where
  l0 : 0 ≤ s.L
  l1 : s.L ≤ cable
  w0 : 0 ≤ s.W
  s0 : 0 ≤ s.S
  s1 : s.S ≤ k
  c0 : 0 ≤ s.C
  c1 : s.C ≤ k

theorem doO_valid {cable : Int} {X Y : List Int} {V : List (List Int)} {charge lo hi : Int} {s s' : Hg} {kd n : Int} {k : Nat} (hc : 0 ≤ cable) (h : Vd cable k s) (hd : doO cable X Y V charge lo hi s kd n = some s') : Vd cable (k + 1) s' := by
  obtain ⟨h1, h2, h3, h4, h5, h6, h7⟩ := h
  have ob : ∀ m, (wi n 1 cable && outB cable X Y V lo hi s.L s.W m) = true → 0 ≤ s.L + m ∧ s.L + m ≤ cable := fun m hm => by
    simp only [outB, Bool.and_eq_true, wi_iff'] at hm; omega
  unfold doO at hd
  split at hd
  · cases hd
  · split at hd
    · split at hd
      · rename_i hb; have := ob _ hb; cases hd; exact ⟨this.1, this.2, h3, by dsimp only; omega, by dsimp only; omega, h6, by dsimp only; omega⟩
      · cases hd
    · split at hd
      · split at hd
        · rename_i hb; have := ob _ hb; cases hd; exact ⟨this.1, this.2, h3, by dsimp only; omega, by dsimp only; omega, h6, by dsimp only; omega⟩
        · cases hd
      · split at hd
        · split at hd
          · rename_i hb; have := wi_iff'.1 hb.2.2.2.2.1; cases hd; exact ⟨h1, h2, by dsimp only; omega, by dsimp only; omega, by dsimp only; omega, h6, by dsimp only; omega⟩
          · cases hd
        · split at hd
          · cases hd
          · split at hd
            · cases hd; exact ⟨h1, h2, h3, by dsimp only; omega, by dsimp only; omega, h6, by dsimp only; omega⟩
            · split at hd
              · cases hd; exact ⟨h1, h2, by dsimp only; omega, by dsimp only; omega, by dsimp only; omega, by dsimp only; omega, by dsimp only; omega⟩
              · split at hd
                · cases hd; exact ⟨by dsimp only; omega, by dsimp only; omega, by dsimp only; omega, by dsimp only; omega, by dsimp only; omega, h6, by dsimp only; omega⟩
                · cases hd

theorem winch_do (vX vY vV : Value) (X Y : List Int) (V : List (List Int)) (cable charge lo hi : Int) (s : Hg) (kd n : Int) (k : Nat) (g : Nat) (w0 w : World) (hR : RT w0 vX vY vV X Y V) (hB : Below w0.heap.size w0 w) (hg0 : w0.heap.size ≤ g)
    (hg : w.heap[g]? = some (winchS cable vX vY vV charge lo hi s)) (hc : cable ≤ 100) (hk : k ≤ 1000) (hv : Vd cable k s) :
    Calls Try.prog 61 #[.pointer (some ⟨g, 0, none⟩), .agg #[.int .i64 kd, .int .i64 n]] w (DoPost cable vX vY vV charge lo hi (doO cable X Y V charge lo hi s kd n) g w) := by
  obtain ⟨h1, h2, h3, h4, h5, h6, h7⟩ := hv
  obtain ⟨L, W, S, C, cut, t⟩ := s
  dsimp only at h1 h2 h3 h4 h5 h6 h7
  cases cut
  · by_cases k1 : kd = 1
    · subst k1; exact winch_do_1 vX vY vV X Y V cable charge lo hi L W S C t n g w0 w hR hB hg0 hg h4 (by omega) h1 (by omega) hc
    · by_cases k2 : kd = 2
      · subst k2; exact winch_do_2 vX vY vV X Y V cable charge lo hi L W S C t n g w0 w hR hB hg0 hg h4 (by omega) h1 (by omega) hc
      · by_cases k4 : kd = 4
        · subst k4; exact winch_do_4 vX vY vV X Y V cable charge lo hi L W S C t n g w0 w hR hB hg0 hg h4 (by omega) h1 (by omega) hc
        · exact winch_do_rest vX vY vV X Y V cable charge lo hi L W S C t kd n g w (hR.below hB) hg h4 (by omega) h6 (by omega) k1 k2 k4
  · exact winch_do_cut vX vY vV X Y V cable charge lo hi L W S C t kd n g w hg h4 (by omega)

/-- All steps in a row: how the hoist stands, or the number of the step that is not possible. -/
def runO (f : Hg → Int → Int → Option Hg) : Hg → Nat → List (Int × Int) → Hg ⊕ Nat
  | s, _, [] => .inl s
  | s, i, x :: xs => match f s x.1 x.2 with | none => .inr i | some s' => runO f s' (i + 1) xs

def h0 : Hg := ⟨0, 0, 0, 0, false, false⟩

theorem drop_next {α : Type} {l : List α} {k : Nat} {x : α} (h : l[k]? = some x) : l.drop k = x :: l.drop (k + 1) := by
  obtain ⟨hk, rfl⟩ := List.getElem?_eq_some_iff.1 h
  exact List.drop_eq_getElem_cons hk

/-- What Haul answers, of a run. -/
def haulOf (r : Hg ⊕ Nat) : Hg × Int × Int := match r with | .inl s => (s, 0, 0) | .inr i => (h0, (i : Int), 72)

def haulR (cable : Int) (X Y : List Int) (V : List (List Int)) (charge lo hi : Int) (l : List (Int × Int)) : Hg × Int × Int :=
  if winchE cable X Y V charge lo hi ≠ 0 then (h0, 0, winchE cable X Y V charge lo hi) else if 100 < l.length then (h0, 0, 2) else if liesB Y lo hi = false then (h0, 0, 1)
  else haulOf (runO (doO cable X Y V charge lo hi) h0 0 l)

def HaulPost (r : Hg × Int × Int) (w : World) (e : Ending) (w' : World) : Prop :=
  AllBelow (.tuple #[.agg #[.int .i64 r.1.L, .int .i64 r.1.W, .int .i64 r.1.S, .int .i64 r.1.C, .bool r.1.cut], .int .i64 r.2.1, .int .i64 r.2.2]) w e w'

abbrev haW (cable : Int) (vX vY vV : Value) (charge lo hi : Int) (w : World) : World :=
  (hoW cable vX vY vV charge lo hi w).alloc (.cells #[.int .i64 0, .int .i64 0, .int .i64 0, .int .i64 0, .bool false] 56)
theorem haW_below (cable : Int) (vX vY vV : Value) (charge lo hi : Int) (w : World) : Below w.heap.size w (haW cable vX vY vV charge lo hi w) := (hoW_below cable vX vY vV charge lo hi w).alloc (by simp; omega) _

theorem haW_res {w wr : World} {cable : Int} {vX vY vV : Value} {charge lo hi : Int} (hb : Below (w.heap.size + 1 + 1 + 1) (haW cable vX vY vV charge lo hi w) wr) :
    wr.heap[w.heap.size + 1 + 1]? = some (.cells #[.int .i64 0, .int .i64 0, .int .i64 0, .int .i64 0, .bool false] 56 (0, 0)) ∧ w.heap.size + 1 + 1 < wr.heap.size := by
  have hz : (haW cable vX vY vV charge lo hi w).heap.size = w.heap.size + 1 + 1 + 1 := by simp
  refine ⟨?_, by have := hb.size; omega⟩
  rw [hb.block _ (by omega)]
  rw [show w.heap.size + 1 + 1 = (hoW cable vX vY vV charge lo hi w).heap.size by simp]
  exact heap_alloc_new _ _

/-- The cells of a block of five, as the walk asks for them. -/
theorem hang_cells {w : World} {b : Nat} {v0 v1 v2 v3 v4 : Value} {T : TypeId} (h : w.heap[b]? = some (.cells #[v0, v1, v2, v3, v4] T (0, 0))) :
    (w.cell? ⟨b, 0, none⟩ = some v0 ∧ w.cell? ⟨b, 1, none⟩ = some v1 ∧ w.cell? ⟨b, 2, none⟩ = some v2 ∧ w.cell? ⟨b, 3, none⟩ = some v3 ∧ w.cell? ⟨b, 4, none⟩ = some v4) ∧
    (w.frozen? ⟨b, 0, none⟩ = false ∧ w.frozen? ⟨b, 1, none⟩ = false ∧ w.frozen? ⟨b, 2, none⟩ = false ∧ w.frozen? ⟨b, 3, none⟩ = false ∧ w.frozen? ⟨b, 4, none⟩ = false) :=
  ⟨⟨(blk_cells h 0).1, (blk_cells h 1).1, (blk_cells h 2).1, (blk_cells h 3).1, (blk_cells h 4).1⟩, (blk_cells h 0).2, (blk_cells h 1).2, (blk_cells h 2).2, (blk_cells h 3).2, (blk_cells h 4).2⟩

theorem set5 {B b : Nat} {w0 w : World} (h : Below B w0 w) (hb : B ≤ b) (v0 v1 v2 v3 v4 : Value) : Below B w0 (((((w.setCell ⟨b, 0, none⟩ v0).setCell ⟨b, 1, none⟩ v1).setCell ⟨b, 2, none⟩ v2).setCell ⟨b, 3, none⟩ v3).setCell ⟨b, 4, none⟩ v4) :=
  ((((h.setCell hb _).setCell hb _).setCell hb _).setCell hb _).setCell hb _

set_option maxRecDepth 100000 in
set_option maxHeartbeats 6400000 in
theorem sling_Haul (vX vY vV : Value) (X Y : List Int) (V : List (List Int)) (cable charge lo hi : Int) (vl : Value) (l : List (Int × Int)) (w : World) (hR : RT w vX vY vV X Y V) (hl : RP w vl l) (hln : l.length ≤ 1000000000000000000) :
    Calls Try.prog 25 #[.agg #[.int .i64 cable, vX, vY, vV, .int .i64 charge], .agg #[.int .i64 lo, .int .i64 hi], vl] w (HaulPost (haulR cable X Y V charge lo hi l) w) := by
  have B3 := haW_below cable vX vY vV charge lo hi w
  have z3 : (haW cable vX vY vV charge lo hi w).heap.size = w.heap.size + 1 + 1 + 1 := by simp
  obtain ⟨Al, cl, rfl, hcl⟩ := hl.form
  have hN := sling_newWinch cable charge lo hi vX vY vV X Y V _ (hR.below B3)
  by_cases h1 : winchE cable X Y V charge lo hi = 0
  · have hc : 1 ≤ cable ∧ cable ≤ 100 := by
      rw [winchE] at h1
      split at h1
      · rename_i h; have := hoistE_zero h; exact ⟨this.1, this.2.1⟩
      · omega
    obtain ⟨hc0, hc1⟩ := hc
    have hN2 := hN.mono (fun e w' h => WinchPost.ok h1 h)
    have H1 := Lib.hid h1
    clear hN h1
    by_cases h2 : 100 < l.length
    · have Hr := Lib.hid (show haulR cable X Y V charge lo hi l = (h0, 0, 2) by rw [haulR, if_neg (by rw [H1.out]; simp), if_pos h2])
      have h2' : (100 : Int) < (l.length : Int) := by omega
      go_enter Try.func25, Try.ntmps25
      go_wp2_with fail
      refine hN2.mono ?_
      rintro e w1 ⟨hb1, g, hg, rfl, hk⟩
      have E1 := B3.trans (hb1.mono B3.size)
      rw [z3] at hb1
      obtain ⟨hres, uR⟩ := haW_res hb1
      obtain ⟨⟨t0, t1, t2, t3, t4⟩, ⟨f0, f1, f2, f3, f4⟩⟩ := hang_cells hres
      clear hres hb1
      go_wp2_with fail
      refine bodyPost_ret (v := .tuple #[.agg #[.int .i64 0, .int .i64 0, .int .i64 0, .int .i64 0, .bool false], .int .i64 0, .int .i64 2]) (by simp [results, Try.results25, go_sem, t0, t1, t2, t3, t4, uR]) rfl ⟨by rw [Hr.out]; rfl, ?_⟩
      exact set5 E1 (by omega) _ _ _ _ _
    · have h2' : (l.length : Int) ≤ 100 := by omega
      cases h3 : liesB Y lo hi
      · have Hr := Lib.hid (show haulR cable X Y V charge lo hi l = (h0, 0, 1) by rw [haulR, if_neg (by rw [H1.out]; simp), if_neg h2, if_pos h3])
        rw [h3] at hN2
        go_enter Try.func25, Try.ntmps25
        go_wp2_with fail
        refine hN2.mono ?_
        rintro e w1 ⟨hb1, g, hg, rfl, hk⟩
        have E1 := B3.trans (hb1.mono B3.size)
        rw [z3] at hb1
        obtain ⟨hres, uR⟩ := haW_res hb1
        obtain ⟨⟨t0, t1, t2, t3, t4⟩, ⟨f0, f1, f2, f3, f4⟩⟩ := hang_cells hres
        clear hres hb1
        go_wp2_with fail
        refine bodyPost_ret (v := .tuple #[.agg #[.int .i64 0, .int .i64 0, .int .i64 0, .int .i64 0, .bool false], .int .i64 0, .int .i64 1]) (by simp [results, Try.results25, go_sem, t0, t1, t2, t3, t4, uR]) rfl ⟨by rw [Hr.out]; rfl, ?_⟩
        exact set5 E1 (by omega) _ _ _ _ _
      · have Hr := Lib.hid (show haulR cable X Y V charge lo hi l = haulOf (runO (doO cable X Y V charge lo hi) h0 0 l) by rw [haulR, if_neg (by rw [H1.out]; simp), if_neg h2, if_neg (by rw [h3]; simp)])
        rw [h3] at hN2
        clear h2
        go_enter Try.func25, Try.ntmps25
        go_wp2_with fail
        refine hN2.mono ?_
        rintro e w1 ⟨hb1, g, hg, rfl, hk⟩
        have E1 := B3.trans (hb1.mono B3.size)
        rw [z3] at hb1
        have gw : w.heap.size + 1 + 1 + 1 ≤ g := by omega
        have hg1 : w1.heap[g]? = some (winchS cable vX vY vV charge lo hi h0) := hk
        have Hg1 := Lib.hid hg1
        clear hk hg1 hg
        go_wp2_with fail
        go_loopw [36] (fun s36 wr => ∃ (k : Nat) (s : Hg), s36 = .int .i64 k ∧ k ≤ l.length ∧ Vd cable k s ∧ runO (doO cable X Y V charge lo hi) h0 0 l = runO (doO cable X Y V charge lo hi) s k (l.drop k) ∧ wr.heap[g]? = some (winchS cable vX vY vV charge lo hi s) ∧ Below g w1 wr) (fun s36 _ => l.length - (intOf s36).toNat)
        case atStart => exact ⟨0, h0, rfl, by omega, ⟨by decide, by show (0 : Int) ≤ cable; omega, by decide, by decide, by decide, by decide, by decide⟩, rfl, Hg1.out, Below.refl _ _⟩
        case round =>
          as_aux_lemma =>
          obtain ⟨k, s, rfl, hk, hv, hrun, hgs, hbl⟩ := hrel
          have Hrun := Lib.hid hrun
          have Hgs := Lib.hid hgs
          have hgl := blk_lt hgs
          have Hv := Lib.hid hv
          clear hrun hgs hv
          have hbw : Below (w.heap.size + 1 + 1 + 1) (haW cable vX vY vV charge lo hi w) wr := hb1.trans (hbl.mono gw)
          have E2 := B3.trans (hbw.mono (by omega))
          by_cases hlt : k < l.length
          · obtain ⟨b, o, c, x, y, e, hb, hx, hcell0, hcell1⟩ := (hl.below E2).at hlt
            cases e
            have hdn := drop_next hx
            have hnx : runO (doO cable X Y V charge lo hi) h0 0 l = match doO cable X Y V charge lo hi s x y with | none => .inr k | some s' => runO (doO cable X Y V charge lo hi) s' (k + 1) (l.drop (k + 1)) := by rw [Hrun.out, hdn]; rfl
            have Hnx := Lib.hid hnx
            clear hdn hnx hx
            go_wp2_with fail
            refine (winch_do vX vY vV X Y V cable charge lo hi s x y k g w _ hR (E2.alloc E2.size _) (by omega) (heap_alloc_old Hgs.out) hc1 (by omega) Hv.out).mono ?_
            rintro e w4 ⟨rfl, hb4, hs4⟩
            have F4 := (hbl.alloc (by omega) _).trans hb4
            cases hd : doO cable X Y V charge lo hi s x y with
            | none =>
              have Hd := Lib.hid hd
              have hbw4 := hb1.trans (F4.mono gw)
              have E4 := B3.trans (hbw4.mono (by omega))
              obtain ⟨hres, uR⟩ := haW_res hbw4
              obtain ⟨⟨t0, t1, t2, t3, t4⟩, ⟨f0, f1, f2, f3, f4⟩⟩ := hang_cells hres
              clear hres hd hs4 hcell0 hcell1
              go_wp2_with fail
              refine bodyPost_ret (v := .tuple #[.agg #[.int .i64 0, .int .i64 0, .int .i64 0, .int .i64 0, .bool false], .int .i64 k, .int .i64 72]) (by simp [results, Try.results25, go_sem, t0, t1, t2, t3, t4, uR]) rfl ⟨?_, ?_⟩
              · rw [Hr.out, Hnx.out, Hd.out]; rfl
              · exact set5 E4 (by omega) _ _ _ _ _
            | some s' =>
              have Hd := Lib.hid hd
              have hv' := doO_valid (by omega) Hv.out hd
              have HH := Lib.hid (hs4 s' hd)
              clear hs4 hd hcell0 hcell1
              go_wp2_with fail
              go_roundw
              case rel => exact ⟨k + 1, s', by go_num, by omega, hv', by rw [Hnx.out, Hd.out], HH.out, F4⟩
              case measure => simp [intOf]; omega
          · obtain rfl : k = l.length := by omega
            have hrn : runO (doO cable X Y V charge lo hi) h0 0 l = .inl s := by rw [Hrun.out, List.drop_length]; rfl
            have Hrn := Lib.hid hrn
            clear hrn
            obtain ⟨hres, uR⟩ := haW_res hbw
            obtain ⟨⟨t0, t1, t2, t3, t4⟩, ⟨f0, f1, f2, f3, f4⟩⟩ := hang_cells hres
            obtain ⟨-, ⟨d7, d8, d9, d10, d11, -⟩, -⟩ := winch_cells cable vX vY vV charge lo hi s.L s.W s.S s.C s.cut s.t Hgs.out
            clear hres
            go_wp2_with fail
            refine bodyPost_ret (v := .tuple #[.agg #[.int .i64 s.L, .int .i64 s.W, .int .i64 s.S, .int .i64 s.C, .bool s.cut], .int .i64 0, .int .i64 0]) (by simp [results, Try.results25, go_sem, t0, t1, t2, t3, t4, uR]) rfl ⟨?_, ?_⟩
            · rw [Hr.out, Hrn.out]; rfl
            · exact set5 E2 (by omega) _ _ _ _ _
  · have hN2 := hN.mono (fun e w' h => WinchPost.bad h1 h)
    have Hr := Lib.hid (show haulR cable X Y V charge lo hi l = (h0, 0, winchE cable X Y V charge lo hi) by rw [haulR, if_pos h1])
    have h1b : (winchE cable X Y V charge lo hi != 0) = true := by simpa using h1
    clear hN h1
    go_enter Try.func25, Try.ntmps25
    go_wp2_with fail
    refine hN2.mono ?_
    rintro e w1 ⟨rfl, hb1⟩
    have E1 := B3.trans (hb1.mono B3.size)
    rw [z3] at hb1
    obtain ⟨hres, uR⟩ := haW_res hb1
    obtain ⟨⟨t0, t1, t2, t3, t4⟩, ⟨f0, f1, f2, f3, f4⟩⟩ := hang_cells hres
    clear hres hb1
    go_wp2_with fail
    refine bodyPost_ret (v := .tuple #[.agg #[.int .i64 0, .int .i64 0, .int .i64 0, .int .i64 0, .bool false], .int .i64 0, .int .i64 (winchE cable X Y V charge lo hi)]) (by simp [results, Try.results25, go_sem, t0, t1, t2, t3, t4, uR]) rfl ⟨by rw [Hr.out]; rfl, ?_⟩
    exact set5 E1 (by omega) _ _ _ _ _

end Go.Proofs.Ytliddinpfgpnfaa
