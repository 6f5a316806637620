/- Contracts of the specification's small functions: spans and axes. -/
import Derived.Test.YtliddinpfgpnfaaA9
namespace Go.Proofs.Ytliddinpfgpnfaa
open Go Go.RowKit Go.Sort
set_option linter.unusedSimpArgs false
set_option linter.unusedVariables false

set_option maxHeartbeats 400000 in
theorem ref_From (n lo hi : Int) (w : World) :
    Calls Try.prog 81 #[.int .i64 n, .int .i64 lo, .int .i64 hi] w fun e w' => e = .returned (.bool (wi n lo hi)) ∧ w = w' := by
  by_cases h : lo ≤ n
  all_goals
    go_enter Try.func81, Try.ntmps81
    go_wp2
    go_ret
    simp [wi]
    try omega

theorem vs_iff (lo hi : Int) : (wi lo (-1000000) 1000000 && wi hi lo 1000000) = vs lo hi := by
  rw [Bool.eq_iff_iff]; simp [vs, wi]; omega

set_option maxHeartbeats 400000 in
theorem ref_Valid (lo hi : Int) (w : World) :
    Calls Try.prog 53 #[.agg #[.int .i64 lo, .int .i64 hi]] w (AllBelow (.bool (vs lo hi)) w) := by
  have HV := Lib.hid (vs_iff lo hi)
  cases h : wi lo (-1000000) 1000000
  all_goals
    go_enter Try.func53, Try.ntmps53
    go_wp2_with (go_at_call 81; refine (ref_From _ _ _ _).mono ?_; rintro e w' ⟨rfl, rfl⟩)
    go_ret
    exact ⟨ret_bool (by rw [← HV.out, h]; simp), (Below.refl _ _).alloc (Nat.le_refl _) _⟩

/-- The error of two spans. -/
def twoE (al ah bl bh : Int) : Int := if vs al ah && vs bl bh then 0 else 10

theorem spannedE_two (al ah bl bh : Int) : spannedE [(al, ah), (bl, bh)] = twoE al ah bl bh := by
  rcases Bool.eq_false_or_eq_true (vs al ah) with h1 | h1 <;> rcases Bool.eq_false_or_eq_true (vs bl bh) with h2 | h2 <;> simp [spannedE, twoE, anyBadS, badS, h1, h2]

set_option maxHeartbeats 400000 in
theorem ref_two (al ah bl bh : Int) (w : World) :
    Calls Try.prog 108 #[.agg #[.int .i64 al, .int .i64 ah], .agg #[.int .i64 bl, .int .i64 bh]] w (AllBelow (.int .i64 (twoE al ah bl bh)) w) := by
  have B2 : Below w.heap.size w ((w.alloc (.cells #[.int .i64 al, .int .i64 ah] 27)).alloc (.cells #[.int .i64 bl, .int .i64 bh] 27)) := ((Below.refl _ _).alloc (Nat.le_refl _) _).alloc (by simp) _
  cases h : vs al ah
  · go_enter Try.func108, Try.ntmps108
    go_wp2_with fail
    refine (ref_Valid al ah _).mono ?_
    rintro e w1 ⟨rfl, hb⟩
    have E1 := B2.trans (hb.mono B2.size)
    rw [h]
    go_wp2
    go_ret
    exact ⟨ret_int (by simp [twoE, h]), E1⟩
  · cases h2 : vs bl bh
    all_goals
      go_enter Try.func108, Try.ntmps108
      go_wp2_with fail
      refine (ref_Valid al ah _).mono ?_
      rintro e w1 ⟨rfl, hb⟩
      have E1 := B2.trans (hb.mono B2.size)
      obtain ⟨hc1, hf1, hs1⟩ := bcell hb
      rw [h]
      go_wp2_with fail
      refine (ref_Valid bl bh _).mono ?_
      rintro e w2 ⟨rfl, hb2⟩
      have E2 := E1.trans (hb2.mono E1.size)
      rw [h2]
      go_wp2
      go_ret
      exact ⟨ret_int (by simp [twoE, h, h2]), E2⟩

set_option maxRecDepth 100000 in
set_option maxHeartbeats 1600000 in
theorem ref_Between (v : Value) (zs : List Int) (lo hi : Int) (w : World) (hR : RI w v zs) (hn : 0 < zs.length) (hl : zs.length ≤ 1000000000000000000) :
    Calls Try.prog 54 #[v, .agg #[.int .i64 lo, .int .i64 hi]] w (AllBelow (.bool (liesB zs lo hi)) w) := by
  obtain ⟨b, o, c, rfl, hb, hc0, hc1⟩ := hR.ends hn
  have B1 : Below w.heap.size w (w.alloc (.cells #[.int .i64 lo, .int .i64 hi] 27)) := (Below.refl _ _).alloc (Nat.le_refl _) _
  have i0 : (0 : Int) < (zs.length : Int) := by omega
  have i1 : IntKind.i64.wrap ((zs.length : Int) - 1) = (zs.length : Int) - 1 := IntWalk.i64_in _ (by omega)
  have i2 : (0 : Int) ≤ (zs.length : Int) - 1 := by omega
  have i3 : (zs.length : Int) - 1 < (zs.length : Int) := by omega
  have i4 : ((zs.length : Int) - 1).toNat = zs.length - 1 := by omega
  by_cases h : hd zs ≤ lo
  · have h' : decide (hd zs ≤ lo) = true := by simpa using h
    go_enter Try.func54, Try.ntmps54
    go_wp2_with fail
    refine rg_all (by kernel_rfl) (by kernel_rfl) ?_
    repeat (go_big_quiet_step (fail))
    refine wpQuiet_nil ?_
    intro w1 hw1
    have E1 := B1.trans ((rg_below hw1).mono (by simp))
    clear hw1
    go_wp2
    go_ret
    exact ⟨ret_bool (by simp [liesB, h]), E1⟩
  · have h' : decide (hd zs ≤ lo) = false := by simpa using h
    clear h
    go_enter Try.func54, Try.ntmps54
    go_wp2_with fail
    refine rg_all (by kernel_rfl) (by kernel_rfl) ?_
    repeat (go_big_quiet_step (fail))
    refine wpQuiet_nil ?_
    intro w1 hw1
    have E1 := B1.trans ((rg_below hw1).mono (by simp))
    clear hw1
    go_wp2
    go_ret
    exact ⟨ret_bool (by simp [liesB, h']), E1⟩

set_option maxRecDepth 100000 in
set_option maxHeartbeats 3200000 in
theorem ref_knots (v : Value) (zs : List Int) (w : World) (hR : RI w v zs) (hl : zs.length ≤ 1000000000000000000) :
    Calls Try.prog 88 #[v] w (AllBelow (.bool (axB zs)) w) := by
  obtain ⟨A, c, rfl, hc⟩ := hR.form
  cases h : wi zs.length 2 12
  · go_enter Try.func88, Try.ntmps88
    go_wp2_with (go_at_call 81; refine (ref_From _ _ _ _).mono ?_; rintro e w' ⟨rfl, rfl⟩)
    go_ret
    exact ⟨ret_bool (by simp [axB, h]), Below.refl _ _⟩
  · go_enter Try.func88, Try.ntmps88
    go_wp2_with (go_at_call 81; refine (ref_From _ _ _ _).mono ?_; rintro e w' ⟨rfl, rfl⟩)
    go_loopw [3] (fun s3 wr => ∃ k : Nat, s3 = .int .i64 k ∧ k ≤ zs.length ∧ okTo (axStep zs) k ∧ Below w.heap.size w wr) (fun s3 _ => zs.length - (intOf s3).toNat)
    case atStart => exact ⟨0, rfl, by omega, okTo_zero _, Below.refl _ _⟩
    case round =>
      obtain ⟨k, rfl, hk, hno, hbl⟩ := hrel
      by_cases hlt : k < zs.length
      · obtain ⟨b, o, c', x, e, hb, hx, hcell⟩ := (hR.below hbl).at hlt
        cases e
        have Hx := Lib.hid (show zs.getD k 0 = x by simp [List.getD_eq_getElem?_getD, hx])
        clear hx
        have i0 : (0 : Int) ≤ (k : Int) := by omega
        have i1 : (k : Int) < (zs.length : Int) := by omega
        cases hp : wi x (-1000000) 1000000
        · go_wp2_with fail
          refine rg_all (by kernel_rfl) (by kernel_rfl) ?_
          repeat (go_big_quiet_step ((go_at_call 81; exact Calls.rg_same (ref_From _ _ _ _))))
          refine wpQuiet_nil ?_
          intro w1 hw1
          have E1 := hbl.trans ((rg_below hw1).mono hbl.size)
          clear hw1
          go_wp2
          go_ret
          exact ⟨ret_bool (axB_false hlt (by rw [axStep, Hx.out, hp]; rfl)).symm, E1⟩
        · by_cases hk0 : k = 0
          · have hk1 : decide ((0 : Int) < (k : Int)) = false := by simp [hk0]
            have hk2 : decide (0 < k) = false := by simp [hk0]
            have Hk0 := Lib.hid hk0
            clear hk0
            go_wp2_with fail
            refine rg_all (by kernel_rfl) (by kernel_rfl) ?_
            repeat (go_big_quiet_step ((go_at_call 81; exact Calls.rg_same (ref_From _ _ _ _))))
            refine wpQuiet_nil ?_
            intro w1 hw1
            have E1 := hbl.trans ((rg_below hw1).mono hbl.size)
            clear hw1
            go_wp2
            go_roundw
            case rel => exact ⟨k + 1, by go_num, by omega, okTo_succ hno (by rw [axStep, Hx.out, hp, Hk0.out]; rfl), E1⟩
            case measure => simp [intOf]; omega
          · obtain ⟨b2, o2, c2, y, e, hb2, hy, hcell2⟩ := (hR.below hbl).at (show k - 1 < zs.length by omega)
            cases e
            have Hy := Lib.hid (show zs.getD (k - 1) 0 = y by simp [List.getD_eq_getElem?_getD, hy])
            clear hy
            have hyb := hno (k - 1) (by omega)
            simp only [axStep, Hy.out, Bool.and_eq_true] at hyb
            have hyb1 := hyb.1
            have hp2 := hp
            simp only [wi, Bool.and_eq_true, decide_eq_true_eq] at hyb1 hp2
            obtain ⟨y1, y2⟩ := hyb1
            obtain ⟨x1, x2⟩ := hp2
            clear hyb
            have hk1 : decide ((0 : Int) < (k : Int)) = true := by simp; omega
            have hk2 : decide (0 < k) = true := by simp; omega
            have j1 : IntKind.i64.wrap ((k : Int) - 1) = (k : Int) - 1 := IntWalk.i64_in _ (by omega)
            have j2 : (0 : Int) ≤ (k : Int) - 1 := by omega
            have j3 : (k : Int) - 1 < (zs.length : Int) := by omega
            have j4 : ((k : Int) - 1).toNat = k - 1 := by omega
            have j5 : IntKind.i64.wrap (x - y) = x - y := IntWalk.i64_in _ (by omega)
            have Hk0 := Lib.hid hk0
            clear hk0
            cases hq : wi (x - y) 1 10000
            all_goals
              go_wp2_with fail
              refine rg_all (by kernel_rfl) (by kernel_rfl) ?_
              repeat (go_big_quiet_step ((go_at_call 81; exact Calls.rg_same (ref_From _ _ _ _))))
              refine wpQuiet_nil ?_
              intro w1 hw1
              have E1 := hbl.trans ((rg_below hw1).mono hbl.size)
              clear hw1 j1 j4 j5
              go_wp2
            · go_ret
              exact ⟨ret_bool (axB_false hlt (by rw [axStep, Hx.out, Hy.out, hp, hq]; have := Hk0.out; simp [this])).symm, E1⟩
            · go_roundw
              case rel => exact ⟨k + 1, by go_num, by omega, okTo_succ hno (by rw [axStep, Hx.out, Hy.out, hp, hq]; simp), E1⟩
              case measure => simp [intOf]; omega
      · go_wp2
        go_ret
        exact ⟨ret_bool (axB_true h hno hlt).symm, hbl⟩

end Go.Proofs.Ytliddinpfgpnfaa
