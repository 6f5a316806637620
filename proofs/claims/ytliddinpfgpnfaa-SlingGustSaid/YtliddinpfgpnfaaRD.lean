/- Contract of the specification's swung. -/
import Derived.Test.YtliddinpfgpnfaaA37
namespace Go.Proofs.Ytliddinpfgpnfaa
open Go Go.RowKit Go.Sort
set_option linter.unusedSimpArgs false
set_option linter.unusedVariables false

def swL (num damp D a v : Int) (gs : List Int) : List Int := (List.range (gs.length + 1)).map fun k => (runs num damp D (a, v, 1) (gs.take k)).1
theorem swL_len (num damp D a v : Int) (gs : List Int) : (swL num damp D a v gs).length = gs.length + 1 := by simp [swL]
theorem swL_at {num damp D a v : Int} {gs : List Int} {k : Nat} (h : k < gs.length + 1) : (swL num damp D a v gs)[k]? = some (runs num damp D (a, v, 1) (gs.take k)).1 := by simp [swL, h]

/-- A tick wraps nowhere. -/
theorem tick_eqs {num damp D a v P g : Int} (hok : ok3 num damp D) (ha : (a.natAbs : Int) ≤ 1000000000000000) (hv : (v.natAbs : Int) ≤ 1000000000000000) (hP : (P.natAbs : Int) ≤ 17179869184) (hg : (g.natAbs : Int) ≤ 100) :
    IntKind.i64.wrap (D * v) = D * v ∧ IntKind.i64.wrap (num * a) = num * a ∧ IntKind.i64.wrap (D * v - num * a) = D * v - num * a ∧ IntKind.i64.wrap (damp * v) = damp * v ∧ IntKind.i64.wrap (D * v - num * a - damp * v) = D * v - num * a - damp * v ∧
    IntKind.i64.wrap (g * P) = g * P ∧ IntKind.i64.wrap (D * v - num * a - damp * v + g * P) = D * v - num * a - damp * v + g * P ∧ IntKind.i64.wrap (D * a) = D * a ∧ IntKind.i64.wrap (D * a + (D * v - num * a - damp * v + g * P)) = D * a + (D * v - num * a - damp * v + g * P) := by
  obtain ⟨h1, h2, h3, h4, h5, h6⟩ := hok
  have m1 := mul_abs (x := D) (X := 4) (by omega) hv
  have m2 := mul_abs (x := num) (X := 8) (by omega) ha
  have m3 := mul_abs (x := damp) (X := 4) (by omega) hv
  have m5 := mul_abs hg hP
  have m6 := mul_abs (x := D) (X := 4) (by omega) ha
  refine ⟨IntWalk.i64_in _ (by omega), IntWalk.i64_in _ (by omega), IntWalk.i64_in _ (by omega), IntWalk.i64_in _ (by omega), IntWalk.i64_in _ (by omega), IntWalk.i64_in _ (by omega), IntWalk.i64_in _ (by omega), IntWalk.i64_in _ (by omega), IntWalk.i64_in _ (by omega)⟩

def SwungPost (zs : List Int) (w : World) (e : Ending) (w' : World) : Prop := ∃ vo, e = .returned vo ∧ Below w.heap.size w w' ∧ RI w' vo zs

theorem coll_lit (w : World) (x : Int) : Coll w w.heap.size [x] (.slice (some ⟨w.heap.size, 0, none⟩) 1 1) (w.alloc (.cells #[.int .i64 x] 3)) :=
  ⟨(Below.refl _ _).alloc (Nat.le_refl _) _, Nat.le_refl _, by simp, by
    have := World.ownsRow_lit (base := w.heap.size) (e := 3) (size := 1) w #[.int .i64 x] 1 (Nat.le_refl _) (by decide) rfl
    simpa [ints] using this⟩

set_option maxRecDepth 100000 in
set_option maxHeartbeats 6400000 in
theorem ref_swung (num damp D a v : Int) (vg : Value) (gs : List Int) (w : World) (hR : RI w vg gs) (hS : Starts num damp D a v gs) :
    Calls Try.prog 116 #[.agg #[.int .i64 num, .int .i64 damp, .int .i64 D], .int .i64 a, .int .i64 v, vg] w (SwungPost (swL num damp D a v gs) w) := by
  obtain ⟨A, c, rfl, hc⟩ := hR.form
  obtain ⟨i0, hi0, hz0, hz1, hz2⟩ := info_parts info3
  have hok := hS.ok
  have hlen := hS.len
  have E0 : Below w.heap.size w (w.alloc (.cells #[.int .i64 num, .int .i64 damp, .int .i64 D] 23)) := (Below.refl _ _).alloc (Nat.le_refl _) _
  have hbox : (w.alloc (.cells #[.int .i64 num, .int .i64 damp, .int .i64 D] 23)).heap[w.heap.size]? = some (.cells #[.int .i64 num, .int .i64 damp, .int .i64 D] 23 (0, 0)) := heap_alloc_new w _
  have hz : (w.alloc (.cells #[.int .i64 num, .int .i64 damp, .int .i64 D] 23)).heap.size = w.heap.size + 1 := by simp
  have hini := coll_lit (w.alloc (.cells #[.int .i64 num, .int .i64 damp, .int .i64 D] 23)) a
  rw [hz] at hini
  have HR1 := Lib.hid (hR.below E0)
  have HZ := Lib.hid hz
  have HBOX := Lib.hid hbox
  clear hbox hz
  go_enter Try.func116, Try.ntmps116
  go_wp2_with fail
  change Code.wp _ _ _ _ ((w.alloc (.cells #[.int .i64 num, .int .i64 damp, .int .i64 D] 23)).alloc _)
  generalize w.alloc (.cells #[.int .i64 num, .int .i64 damp, .int .i64 D] 23) = W1 at *
  go_loopw [1, 2, 9, 10] (fun s1 s2 s9 s10 wr => ∃ k : Nat, s10 = .int .i64 k ∧ k ≤ gs.length ∧ s1 = .int .i64 (runs num damp D (a, v, 1) (gs.take k)).1 ∧ s2 = .int .i64 (runs num damp D (a, v, 1) (gs.take k)).2.1 ∧ Coll W1 (w.heap.size + 1) ((swL num damp D a v gs).take (k + 1)) s9 wr) (fun _ _ _ s10 _ => gs.length - (intOf s10).toNat)
  case atStart => exact ⟨0, rfl, by omega, rfl, rfl, by rw [show (swL num damp D a v gs).take (0 + 1) = [a] by rw [take_next (swL_at (by omega))]; rfl]; exact hini⟩
  case round =>
    obtain ⟨k, rfl, hk, rfl, rfl, hst⟩ := hrel
    have Hst := Lib.hid hst
    clear hst
    have hx := blk_cells ((Hst.out.below.block w.heap.size (by rw [HZ.out]; omega)).trans HBOX.out)
    have x0 := (hx 0).1
    have x1 := (hx 1).1
    have x2 := (hx 2).1
    clear hx
    simp only [Array.getElem?_eq_getElem, List.size_toArray, List.length_cons, List.length_nil, Nat.reduceAdd, Nat.reduceLT, List.getElem_toArray, List.getElem_cons_zero, List.getElem_cons_succ] at x0 x1 x2
    have u1 : w.heap.size < wr.heap.size := lt_of_cell x0
    by_cases hlt : k < gs.length
    · obtain ⟨b, o, c', x, e, hbx, hxx, hcell⟩ := (HR1.out.below Hst.out.below).at hlt
      cases e
      have Hx := Lib.hid hxx
      have HT := Lib.hid (take_next hxx)
      clear hxx
      have hg := hS.gusts x (List.mem_of_getElem? Hx.out)
      obtain ⟨r1, r2, r3⟩ := runs_bound (hS.take k)
      obtain ⟨p1, p2⟩ := pow_le D hok.1 hok.2.1 (k + 1) (by omega)
      have HP : ∀ W, Calls Try.prog 96 #[.int .i64 D, .int .i64 ((k : Int) + 1)] W fun e w' => e = .returned (.int .i64 (D ^ (k + 1))) ∧ W = w' := fun W => by
        have h := ref_power D (k + 1) W hok.1 hok.2.1 (by omega)
        rwa [show ((k + 1 : Nat) : Int) = (k : Int) + 1 from rfl] at h
      have HTK := Lib.hid (show runs num damp D (a, v, 1) (gs.take (k + 1)) = tk num damp D (runs num damp D (a, v, 1) (gs.take k)) x by rw [HT.out, runs_snoc])
      have HD := Lib.hid (show (runs num damp D (a, v, 1) (gs.take k)).2.2 * D = D ^ (k + 1) by rw [r3, List.length_take, Nat.min_eq_left hk, Int.pow_succ])
      have HNX := Lib.hid (take_next (swL_at (num := num) (damp := damp) (D := D) (a := a) (v := v) (gs := gs) (k := k + 1) (by omega)))
      generalize D ^ (k + 1) = P at p1 p2 HP HD
      generalize runs num damp D (a, v, 1) (gs.take k) = st at r1 r2 HTK HD
      obtain ⟨sa, sv, sd⟩ := st
      replace HTK := HTK.out
      replace HD := HD.out
      dsimp only at r1 r2 HD
      rw [show tk num damp D (sa, sv, sd) x = (D * sa + (D * sv - num * sa - damp * sv + x * P), D * sv - num * sa - damp * sv + x * P, P) by rw [← HD]; rfl] at HTK
      have HTK := Lib.hid HTK
      clear HD r3
      obtain ⟨e1, e2, e3, e4, e5, e6, e7, e8, e9⟩ := tick_eqs hok r1 r2 (P := P) (by omega) hg
      have i1 : (k : Int) < (gs.length : Int) := by omega
      have i2 : (0 : Int) ≤ (k : Int) := by omega
      have i3 : IntKind.i64.wrap ((k : Int) + 1) = (k : Int) + 1 := IntWalk.i64_in _ (by omega)
      go_wp2_with fail
      refine rg_tail 25 (by kernel_rfl) (by kernel_rfl) ?_
      simp only [List.take_succ_cons, List.take_zero, List.drop_succ_cons, List.drop_zero]
      repeat (go_big_quiet_step ((go_at_call 96; exact Calls.rg_same (HP _))))
      refine wpQuiet_nil ?_
      intro w3 hw3
      have hb3 := rg_below hw3
      have H3 := Lib.hid (Hst.out.quiet hb3)
      have hx3 := blk_cells ((H3.out.below.block w.heap.size (by rw [HZ.out]; omega)).trans HBOX.out) 2
      have x3 := hx3.1
      simp only [Array.getElem?_eq_getElem, List.size_toArray, List.length_cons, List.length_nil, Nat.reduceAdd, Nat.reduceLT, List.getElem_toArray, List.getElem_cons_zero, List.getElem_cons_succ] at x3
      clear hw3 hx3 i3 x0 x1 x2
      have hkl := Lib.hid (show ((swL num damp D a v gs).take (k + 1)).length = k + 1 by rw [List.length_take, swL_len]; omega)
      have HO := Lib.hid (by have h := H3.out.own; rw [hkl.out] at h; exact h)
      replace HTK := HTK.out
      generalize hV : D * sv - num * sa - damp * sv + x * P = V at *
      clear hV
      have HTK := Lib.hid HTK
      go_wp2_with (at_builtin; refine wpList_append_own _ rfl _ _ 25 rfl (w.heap.size + 1) 3 i0 (.int .i64 0) 1 8 Try.underlying25 hi0 hz0 hz1 hz2 rfl (by decide) _ (k + 1) _ rfl (HO.out.alloc _) ⟨w3.heap.size, 0, none⟩ 1 1 [.int .i64 (D * sa + V)] rfl rfl ?c1 ?c2 ?c3 ?c4 ?c5 ?_)
      case c1 => exact cell_one w3 _ 3
      case c2 => intro u hu; simp at hu; subst hu; rfl
      case c3 => unfold maxLen; omega
      case c4 => omega
      case c5 => have := H3.out.bl; simp; omega
      intro v6 w6 ho6 hg6 _
      have hn6 := Lib.hid (H3.out.next (D * sa + V) _ hg6 (by rw [hkl.out]; exact ho6))
      clear ho6 hg6
      go_wp2
      go_roundw
      case rel => exact ⟨k + 1, by go_num, by omega, by rw [HTK.out], by rw [HTK.out], by have h := hn6.out; have h2 := HNX.out; rw [HTK.out] at h2; rw [h2]; exact h⟩
      case measure => simp [intOf]; omega
    · obtain rfl : k = gs.length := by omega
      go_wp2
      go_ret
      have h := Hst.out.reads
      rw [List.take_of_length_le (by rw [swL_len]; exact Nat.le_refl _)] at h
      exact ⟨_, rfl, E0.trans (Hst.out.below.mono (by rw [HZ.out]; omega)), h⟩

end Go.Proofs.Ytliddinpfgpnfaa
