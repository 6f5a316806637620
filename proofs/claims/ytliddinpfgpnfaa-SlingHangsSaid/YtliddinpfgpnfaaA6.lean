/- Contracts: spans, boxes and axes. -/
import Derived.Test.YtliddinpfgpnfaaA3
namespace Go.Proofs.Ytliddinpfgpnfaa
open Go Go.RowKit Go.Sort
set_option linter.unusedSimpArgs false
set_option linter.unusedVariables false

set_option maxHeartbeats 400000 in
theorem spans_within (n lo hi : Int) (w : World) :
    Calls Try.prog 83 #[.int .i64 n, .int .i64 lo, .int .i64 hi] w fun e w' => e = .returned (.bool (wi n lo hi)) ∧ w = w' := by
  by_cases h : lo ≤ n
  all_goals
    go_enter Try.func83, Try.ntmps83
    go_wp2
    go_ret
    simp [wi]
    try omega

/-- A span is valid. -/
def vs (lo hi : Int) : Bool := wi lo (-1000000) hi && decide (hi ≤ 1000000)

set_option maxHeartbeats 400000 in
theorem spans_valid (lo hi : Int) (w : World) :
    Calls Try.prog 103 #[.agg #[.int .i64 lo, .int .i64 hi]] w (AllBelow (.bool (vs lo hi)) w) := by
  cases h : wi lo (-1000000) hi
  all_goals
    go_enter Try.func103, Try.ntmps103
    go_wp2_with (go_at_call 83; refine (spans_within _ _ _ _).mono ?_; rintro e w' ⟨rfl, rfl⟩)
    go_ret
    exact ⟨ret_bool (by simp [vs, h]), (Below.refl _ _).alloc (Nat.le_refl _) _⟩

set_option maxHeartbeats 400000 in
theorem spanned_1 (lo hi : Int) (w : World) :
    Calls Try.prog 102 #[.agg #[.int .i64 lo, .int .i64 hi]] w (AllBelow (.bool (!vs lo hi)) w) := by
  go_enter Try.func102, Try.ntmps102
  go_wp2_with (go_at_call 103; refine (spans_valid _ _ _).mono ?_; rintro e w' ⟨rfl, hb⟩; have Hb := Lib.hid hb; clear hb)
  go_ret
  exact ⟨ret_bool rfl, ((Below.refl _ _).alloc (Nat.le_refl _) _).trans (Hb.out.mono (by simp))⟩

/-- A slice of pairs. -/
def RP (w : World) (v : Value) (ps : List (Int × Int)) : Prop := RS w v 2 ps.length (prs ps)
theorem RP.below {w w' : World} {v : Value} {ps : List (Int × Int)} (h : RP w v ps) (hb : Below w.heap.size w w') : RP w' v ps := RS.below h hb
theorem RP.form {w : World} {v : Value} {ps : List (Int × Int)} (h : RP w v ps) : ∃ A c, v = .slice A ps.length c ∧ ps.length ≤ c := by
  obtain ⟨A, c, e, h1, _⟩ := h; exact ⟨A, c, e, h1⟩
theorem RP.at {w : World} {v : Value} {ps : List (Int × Int)} {k : Nat} (h : RP w v ps) (hk : k < ps.length) :
    ∃ b o c x y, v = .slice (some ⟨b, o, none⟩) ps.length c ∧ b < w.heap.size ∧ ps[k]? = some (x, y) ∧ w.cell? ⟨b, o + k * 2, none⟩ = some (.int .i64 x) ∧ w.cell? ⟨b, o + k * 2 + 1, none⟩ = some (.int .i64 y) := by
  obtain ⟨b, o, c, e, hc, hb, hcell⟩ := RS.open h (by omega)
  have hx : ps[k]? = some (ps[k].1, ps[k].2) := List.getElem?_eq_getElem hk
  obtain ⟨p1, p2⟩ := prs_at ps k _ hx
  exact ⟨b, o, c, ps[k].1, ps[k].2, e, hb, hx, hcell _ _ p1, by have := hcell _ _ p2; rwa [Nat.add_assoc]⟩

/-- No span is valid. -/
def badS (p : Int × Int) : Bool := !vs p.1 p.2

set_option maxHeartbeats 1600000 in
theorem idx102 (v : Value) (ps : List (Int × Int)) (w : World) (hR : RP w v ps) (hl : ps.length ≤ 1000000000000000000) :
    Calls Try.prog 115 #[v, .func (.func 102) #[] #[]] w (AllBelow (.int .i64 (idxF badS ps)) w) := by
  obtain ⟨A, c, rfl, hc⟩ := hR.form
  go_enter Try.func115, Try.ntmps115
  go_wp2
  go_loopw [8] (fun s8 wr => ∃ k : Nat, s8 = .int .i64 k ∧ k ≤ ps.length ∧ noneTo badS ps k ∧ Below w.heap.size w wr) (fun s8 _ => ps.length - (intOf s8).toNat)
  case atStart => exact ⟨0, rfl, by omega, noneTo_zero _ _, Below.refl _ _⟩
  case round =>
    obtain ⟨k, rfl, hk, hno, hbl⟩ := hrel
    by_cases hlt : k < ps.length
    · obtain ⟨b, o, c', x, y, e, hb, hx, hcell, hcell2⟩ := (hR.below hbl).at hlt
      cases e
      have Hx := Lib.hid hx
      clear hx
      cases hp : vs x y
      all_goals
        go_wp2_with (go_at_call 102; refine (spanned_1 _ _ _).mono ?_; rintro e w1 ⟨rfl, hb⟩; have Hb := Lib.hid hb; clear hb)
      · go_ret
        exact ⟨ret_int (idxF_some hno Hx.out (by simp [badS, hp])).symm, hbl.trans (Hb.out.mono hbl.size)⟩
      · go_roundw
        case rel => exact ⟨k + 1, by go_num, by omega, noneTo_succ hno Hx.out (by simp [badS, hp]), hbl.trans (Hb.out.mono hbl.size)⟩
        case measure => simp [intOf]; omega
    · go_wp2
      go_ret
      exact ⟨ret_int (idxF_none hno hlt).symm, hbl⟩

def anyBadS (ps : List (Int × Int)) : Bool := ps.any badS

theorem any102 (v : Value) (ps : List (Int × Int)) (w : World) (hR : RP w v ps) (hl : ps.length ≤ 1000000000000000000) :
    Calls Try.prog 101 #[v, .func (.func 102) #[] #[]] w (AllBelow (.bool (anyBadS ps)) w) := by
  have H := Lib.hid (idxF_any badS ps)
  go_enter Try.func101, Try.ntmps101
  go_wp2_with (go_at_call 115; refine (idx102 _ ps _ hR hl).mono ?_; rintro e w1 ⟨rfl, hb⟩; have Hb := Lib.hid hb; clear hb)
  go_ret
  exact ⟨ret_bool H.out, Hb.out⟩

def spannedE (ps : List (Int × Int)) : Int := if anyBadS ps then 10 else 0

theorem spans_spanned (v : Value) (ps : List (Int × Int)) (w : World) (hR : RP w v ps) (hl : ps.length ≤ 1000000000000000000) :
    Calls Try.prog 90 #[v] w (AllBelow (.int .i64 (spannedE ps)) w) := by
  cases h : anyBadS ps
  all_goals
    go_enter Try.func90, Try.ntmps90
    go_wp2_with (go_at_call 101; refine (any102 _ ps _ hR hl).mono ?_; rintro e w1 ⟨rfl, hb⟩; rw [h]; have Hb := Lib.hid hb; clear hb)
    go_ret
    exact ⟨ret_int (by simp [spannedE, h]), Hb.out⟩

/-- The error of a box. -/
def boxE (ps : List (Int × Int)) : Int := if wi ps.length 1 3 then spannedE ps else 10

theorem spans_Check (v : Value) (ps : List (Int × Int)) (w : World) (hR : RP w v ps) (hl : ps.length ≤ 1000000000000000000) :
    Calls Try.prog 79 #[v] w (AllBelow (.int .i64 (boxE ps)) w) := by
  obtain ⟨A, c, rfl, hc⟩ := hR.form
  cases h : wi ps.length 1 3
  · go_enter Try.func79, Try.ntmps79
    go_wp2_with (go_at_call 83; refine (spans_within _ _ _ _).mono ?_; rintro e w' ⟨rfl, rfl⟩)
    go_ret
    exact ⟨ret_int (by simp [boxE, h]), Below.refl _ _⟩
  · go_enter Try.func79, Try.ntmps79
    go_wp2_with (first
      | (go_at_call 83; refine (spans_within _ _ _ _).mono ?_; rintro e w' ⟨rfl, rfl⟩)
      | (go_at_call 90; refine (spans_spanned _ ps _ hR hl).mono ?_; rintro e w1 ⟨rfl, hb⟩; have Hb := Lib.hid hb; clear hb))
    go_ret
    exact ⟨ret_int (by simp [boxE, h]), Hb.out⟩

/-- Knot k of an axis is right behind the one before. -/
def axStep (zs : List Int) (k : Nat) : Bool := wi (zs.getD k 0) (-1000000) 1000000 && (k == 0 || wi (zs.getD k 0 - zs.getD (k - 1) 0) 1 10000)
def okTo (p : Nat → Bool) (k : Nat) : Prop := ∀ j, j < k → p j = true
theorem okTo_zero (p : Nat → Bool) : okTo p 0 := fun j hj => by omega
theorem okTo_succ {p : Nat → Bool} {k : Nat} (h : okTo p k) (hp : p k = true) : okTo p (k + 1) := fun j hj => by
  by_cases e : j = k
  · subst e; exact hp
  · exact h j (by omega)
def axB (zs : List Int) : Bool := wi zs.length 2 12 && (List.range zs.length).all (axStep zs)
theorem axB_true {zs : List Int} {k : Nat} (h : wi zs.length 2 12 = true) (ho : okTo (axStep zs) k) (hk : ¬ k < zs.length) : axB zs = true := by
  simp only [axB, h, Bool.true_and, List.all_eq_true, List.mem_range]
  exact fun j hj => ho j (by omega)
theorem axB_false {zs : List Int} {k : Nat} (hk : k < zs.length) (h : axStep zs k = false) : axB zs = false := by
  simp only [axB, Bool.and_eq_false_iff]
  right
  rw [List.all_eq_false]
  exact ⟨k, List.mem_range.2 hk, by simp [h]⟩

set_option maxHeartbeats 1600000 in
theorem spans_axis (v : Value) (zs : List Int) (w : World) (hR : RI w v zs) (hl : zs.length ≤ 1000000000000000000) :
    Calls Try.prog 85 #[v] w fun e w' => e = .returned (.bool (axB zs)) ∧ w = w' := by
  obtain ⟨A, c, rfl, hc⟩ := hR.form
  cases h : wi zs.length 2 12
  · go_enter Try.func85, Try.ntmps85
    go_wp2_with (go_at_call 83; refine (spans_within _ _ _ _).mono ?_; rintro e w' ⟨rfl, rfl⟩)
    go_ret
    exact ⟨ret_bool (by simp [axB, h]), rfl⟩
  · go_enter Try.func85, Try.ntmps85
    go_wp2_with (go_at_call 83; refine (spans_within _ _ _ _).mono ?_; rintro e w' ⟨rfl, rfl⟩)
    go_loop [11] (fun s11 => ∃ k : Nat, s11 = .int .i64 k ∧ k ≤ zs.length ∧ okTo (axStep zs) k) (fun s11 => zs.length - (intOf s11).toNat)
    case atStart => exact ⟨0, rfl, by omega, okTo_zero _⟩
    case round =>
      obtain ⟨k, rfl, hk, hno⟩ := hrel
      by_cases hlt : k < zs.length
      · obtain ⟨b, o, c', x, e, hb, hx, hcell⟩ := hR.at hlt
        cases e
        have Hx := Lib.hid (show zs.getD k 0 = x by simp [List.getD_eq_getElem?_getD, hx])
        clear hx
        cases hp : wi x (-1000000) 1000000
        · go_wp2_with (go_at_call 83; refine (spans_within _ _ _ _).mono ?_; rintro e w' ⟨rfl, rfl⟩)
          go_ret
          exact ⟨ret_bool (axB_false hlt (by rw [axStep, Hx.out, hp]; rfl)).symm, rfl⟩
        · by_cases hk0 : k = 0
          · have hk1 : k ≤ 0 := by omega
            have Hk0 := Lib.hid hk0
            clear hk0
            go_wp2_with (go_at_call 83; refine (spans_within _ _ _ _).mono ?_; rintro e w' ⟨rfl, rfl⟩)
            go_round
            case rel => exact ⟨k + 1, by go_num, by omega, okTo_succ hno (by rw [axStep, Hx.out, hp, Hk0.out]; rfl)⟩
            case measure => simp [intOf]; omega
          · obtain ⟨b2, o2, c2, y, e, hb2, hy, hcell2⟩ := hR.at (show k - 1 < zs.length by omega)
            cases e
            have Hy := Lib.hid (show zs.getD (k - 1) 0 = y by simp [List.getD_eq_getElem?_getD, hy])
            clear hy
            have hyb := hno (k - 1) (by omega)
            simp only [axStep, Hy.out, Bool.and_eq_true] at hyb
            have hyb1 := hyb.1
            have hp2 := hp
            simp only [wi, Bool.and_eq_true, decide_eq_true_eq] at hyb1 hp2
            obtain ⟨y1, y2⟩ := hyb1
            obtain ⟨x1, x2⟩ := hp2
            clear hyb
            have hk1 : 0 < k := by omega
            cases hq : wi (x - y) 1 10000
            all_goals
              go_wp2_with (go_at_call 83; refine (spans_within _ _ _ _).mono ?_; rintro e w' ⟨rfl, rfl⟩)
            · go_ret
              exact ⟨ret_bool (axB_false hlt (by rw [axStep, Hx.out, Hy.out, hp, hq]; simp; omega)).symm, rfl⟩
            · go_round
              case rel => exact ⟨k + 1, by go_num, by omega, okTo_succ hno (by rw [axStep, Hx.out, Hy.out, hp, hq]; simp)⟩
              case measure => simp [intOf]; omega
      · go_wp2
        go_ret
        exact ⟨ret_bool (axB_true h hno hlt).symm, rfl⟩

end Go.Proofs.Ytliddinpfgpnfaa
