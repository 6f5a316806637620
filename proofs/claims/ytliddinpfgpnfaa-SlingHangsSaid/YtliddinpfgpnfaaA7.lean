/- Contract: CheckTable. -/
import Derived.Test.YtliddinpfgpnfaaA6
import Derived.Laws.EntriesVeiled
namespace Go.Proofs.Ytliddinpfgpnfaa
open Go Go.RowKit Go.Sort
set_option linter.unusedSimpArgs false
set_option linter.unusedVariables false

/-- A slice of slices of whole numbers. -/
def RII (w : World) (v : Value) (zss : List (List Int)) : Prop :=
  ∃ A c, v = .slice A zss.length c ∧ zss.length ≤ c ∧ ∀ k row, zss[k]? = some row → ∃ b o u, A = some ⟨b, o, none⟩ ∧ w.cell? ⟨b, o + k, none⟩ = some u ∧ RI w u row
theorem RII.below {w w' : World} {v : Value} {zss : List (List Int)} (h : RII w v zss) (hb : Below w.heap.size w w') : RII w' v zss := by
  obtain ⟨A, c, e, h1, h2⟩ := h
  refine ⟨A, c, e, h1, fun k row hk => ?_⟩
  obtain ⟨b, o, u, e1, hc, hr⟩ := h2 k row hk
  exact ⟨b, o, u, e1, by rw [hb.cell (p := ⟨b, o + k, none⟩) (lt_of_cell hc)]; exact hc, hr.below hb⟩
theorem RII.form {w : World} {v : Value} {zss : List (List Int)} (h : RII w v zss) : ∃ A c, v = .slice A zss.length c ∧ zss.length ≤ c := by
  obtain ⟨A, c, e, h1, _⟩ := h; exact ⟨A, c, e, h1⟩
theorem RII.at {w : World} {v : Value} {zss : List (List Int)} {k : Nat} (h : RII w v zss) (hk : k < zss.length) :
    ∃ b o c u row, v = .slice (some ⟨b, o, none⟩) zss.length c ∧ b < w.heap.size ∧ zss[k]? = some row ∧ w.cell? ⟨b, o + k, none⟩ = some u ∧ RI w u row := by
  obtain ⟨A, c, e, h1, h2⟩ := h
  obtain ⟨b, o, u, rfl, hc, hr⟩ := h2 k _ (List.getElem?_eq_getElem hk)
  exact ⟨b, o, c, u, _, e, lt_of_cell hc, List.getElem?_eq_getElem hk, hc, hr⟩

theorem table_1 (n : Int) (w : World) : Calls Try.prog 82 #[.int .i64 n] w fun e w' => e = .returned (.bool (!wi n (-1000000) 1000000)) ∧ w = w' := by
  go_enter Try.func82, Try.ntmps82
  go_wp2_with (go_at_call 83; refine (spans_within _ _ _ _).mono ?_; rintro e w' ⟨rfl, rfl⟩)
  go_ret
  exact ⟨rfl, rfl⟩

/-- A number that no table holds. -/
def badN (n : Int) : Bool := !wi n (-1000000) 1000000

set_option maxHeartbeats 1600000 in
theorem idx82 (v : Value) (zs : List Int) (w : World) (hR : RI w v zs) (hl : zs.length ≤ 1000000000000000000) :
    Calls Try.prog 78 #[v, .func (.func 82) #[] #[]] w fun e w' => e = .returned (.int .i64 (idxF badN zs)) ∧ w = w' := by
  obtain ⟨A, c, rfl, hc⟩ := hR.form
  go_enter Try.func78, Try.ntmps78
  go_wp2
  go_loop [8] (fun s8 => ∃ k : Nat, s8 = .int .i64 k ∧ k ≤ zs.length ∧ noneTo badN zs k) (fun s8 => zs.length - (intOf s8).toNat)
  case atStart => exact ⟨0, rfl, by omega, noneTo_zero _ _⟩
  case round =>
    obtain ⟨k, rfl, hk, hno⟩ := hrel
    by_cases hlt : k < zs.length
    · obtain ⟨b, o, c', x, e, hb, hx, hcell⟩ := hR.at hlt
      cases e
      have Hx := Lib.hid hx
      clear hx
      cases hp : wi x (-1000000) 1000000
      all_goals
        go_wp2_with (go_at_call 82; refine (table_1 _ _).mono ?_; rintro e w' ⟨rfl, rfl⟩)
      · go_ret
        exact ⟨ret_int (idxF_some hno Hx.out (by simp [badN, hp])).symm, rfl⟩
      · go_round
        case rel => exact ⟨k + 1, by go_num, by omega, noneTo_succ hno Hx.out (by simp [badN, hp])⟩
        case measure => simp [intOf]; omega
    · go_wp2
      go_ret
      exact ⟨ret_int (idxF_none hno hlt).symm, rfl⟩

def anyBadN (zs : List Int) : Bool := zs.any badN

theorem any82 (v : Value) (zs : List Int) (w : World) (hR : RI w v zs) (hl : zs.length ≤ 1000000000000000000) :
    Calls Try.prog 43 #[v, .func (.func 82) #[] #[]] w fun e w' => e = .returned (.bool (anyBadN zs)) ∧ w = w' := by
  have H := Lib.hid (idxF_any badN zs)
  go_enter Try.func43, Try.ntmps43
  go_wp2_with (go_at_call 78; refine (idx82 _ zs _ hR hl).mono ?_; rintro e w' ⟨rfl, rfl⟩)
  go_ret
  exact ⟨ret_bool H.out, rfl⟩

/-- A row that does not fit a table with m columns. -/
def badRow (m : Nat) (row : List Int) : Bool := row.length != m || anyBadN row

set_option maxHeartbeats 1600000 in
theorem table_2 (v : Value) (row : List Int) (T O : Nat) (A : Option Addr) (m c : Nat) (w : World) (hR : RI w v row) (hl : row.length ≤ 1000000000000000000) (hm : m ≤ 1000000000000000000)
    (hT : w.cell? ⟨T, 1, none⟩ = some (.slice A m c)) (hO : w.cell? ⟨O, 0, none⟩ = some (.func (.func 82) #[] #[])) :
    Calls Try.prog 84 #[v, .pointer (some ⟨T, 0, none⟩), .pointer (some ⟨O, 0, none⟩)] w fun e w' => e = .returned (.bool (badRow m row)) ∧ w = w' := by
  obtain ⟨A', c', rfl, hc'⟩ := hR.form
  by_cases h : row.length = m
  · have H := Lib.hid h
    have h2 : (((row.length : Nat) : Int) != (m : Int)) = false := by simp [h]
    clear h
    go_enter Try.func84, Try.ntmps84
    go_wp2_with (go_at_call 43; refine (any82 _ row _ hR hl).mono ?_; rintro e w' ⟨rfl, rfl⟩)
    go_ret
    exact ⟨ret_bool (by simp [badRow, H.out]), rfl⟩
  · have h2 : (((row.length : Nat) : Int) != (m : Int)) = true := by simp; omega
    have H := Lib.hid h
    clear h
    go_enter Try.func84, Try.ntmps84
    go_wp2_with (go_at_call 43; refine (any82 _ row _ hR hl).mono ?_; rintro e w' ⟨rfl, rfl⟩)
    go_ret
    exact ⟨ret_bool (by simp [badRow, H.out]), rfl⟩

set_option maxHeartbeats 1600000 in
theorem idx84 (v : Value) (zss : List (List Int)) (T O : Nat) (A : Option Addr) (m c : Nat) (w : World) (hR : RII w v zss) (hl : zss.length ≤ 1000000000000000000) (hr : ∀ r ∈ zss, r.length ≤ 1000000000000000000) (hm : m ≤ 1000000000000000000)
    (hT : w.cell? ⟨T, 1, none⟩ = some (.slice A m c)) (hO : w.cell? ⟨O, 0, none⟩ = some (.func (.func 82) #[] #[])) :
    Calls Try.prog 99 #[v, .func (.func 84) #[] #[.pointer (some ⟨T, 0, none⟩), .pointer (some ⟨O, 0, none⟩)]] w fun e w' => e = .returned (.int .i64 (idxF (badRow m) zss)) ∧ w = w' := by
  obtain ⟨A, c, rfl, hc⟩ := hR.form
  have Hr := Lib.hid hr
  clear hr
  go_enter Try.func99, Try.ntmps99
  go_wp2
  go_loop [8] (fun s8 => ∃ k : Nat, s8 = .int .i64 k ∧ k ≤ zss.length ∧ noneTo (badRow m) zss k) (fun s8 => zss.length - (intOf s8).toNat)
  case atStart => exact ⟨0, rfl, by omega, noneTo_zero _ _⟩
  case round =>
    obtain ⟨k, rfl, hk, hno⟩ := hrel
    by_cases hlt : k < zss.length
    · obtain ⟨b, o, c', u, row, e, hb, hx, hcell, hru⟩ := hR.at hlt
      cases e
      have hrl := Hr.out row (List.mem_of_getElem? hx)
      have Hx := Lib.hid hx
      clear hx
      obtain ⟨A', c', rfl, hc'⟩ := hru.form
      cases hp : badRow m row
      all_goals
        go_wp2_with (go_at_call 84; refine (table_2 _ row _ _ _ m _ _ hru hrl hm hT hO).mono ?_; rintro e w' ⟨rfl, rfl⟩)
      · go_round
        case rel => exact ⟨k + 1, by go_num, by omega, noneTo_succ hno Hx.out hp⟩
        case measure => simp [intOf]; omega
      · go_ret
        exact ⟨ret_int (idxF_some hno Hx.out hp).symm, rfl⟩
    · go_wp2
      go_ret
      exact ⟨ret_int (idxF_none hno hlt).symm, rfl⟩

def anyBadRow (m : Nat) (zss : List (List Int)) : Bool := zss.any (badRow m)

theorem any84 (v : Value) (zss : List (List Int)) (T O : Nat) (A : Option Addr) (m c : Nat) (w : World) (hR : RII w v zss) (hl : zss.length ≤ 1000000000000000000) (hr : ∀ r ∈ zss, r.length ≤ 1000000000000000000) (hm : m ≤ 1000000000000000000)
    (hT : w.cell? ⟨T, 1, none⟩ = some (.slice A m c)) (hO : w.cell? ⟨O, 0, none⟩ = some (.func (.func 82) #[] #[])) :
    Calls Try.prog 86 #[v, .func (.func 84) #[] #[.pointer (some ⟨T, 0, none⟩), .pointer (some ⟨O, 0, none⟩)]] w fun e w' => e = .returned (.bool (anyBadRow m zss)) ∧ w = w' := by
  have H := Lib.hid (idxF_any (badRow m) zss)
  have Hr := Lib.hid hr
  clear hr
  go_enter Try.func86, Try.ntmps86
  go_wp2_with (go_at_call 99; refine (idx84 _ zss _ _ _ m _ _ hR hl Hr.out hm hT hO).mono ?_; rintro e w' ⟨rfl, rfl⟩)
  go_ret
  exact ⟨ret_bool H.out, rfl⟩

/-- The error of a table. -/
def tableE (X Y : List Int) (V : List (List Int)) : Int := if axB X && axB Y && V.length == X.length && !anyBadRow Y.length V then 0 else 11

/-- What a table's parts hold. -/
structure RT (w : World) (vX vY vV : Value) (X Y : List Int) (V : List (List Int)) : Prop where
  x : RI w vX X
  y : RI w vY Y
  v : RII w vV V
  lx : X.length ≤ 1000000000000000000
  ly : Y.length ≤ 1000000000000000000
  lv : V.length ≤ 1000000000000000000
  lr : ∀ r ∈ V, r.length ≤ 1000000000000000000
theorem RT.below {w w' : World} {vX vY vV : Value} {X Y : List Int} {V : List (List Int)} (h : RT w vX vY vV X Y V) (hb : Below w.heap.size w w') : RT w' vX vY vV X Y V :=
  ⟨h.x.below hb, h.y.below hb, h.v.below hb, h.lx, h.ly, h.lv, h.lr⟩

set_option maxHeartbeats 1600000 in
theorem spans_CheckTable (vX vY vV : Value) (X Y : List Int) (V : List (List Int)) (w : World) (hR : RT w vX vY vV X Y V) :
    Calls Try.prog 55 #[.agg #[vX, vY, vV]] w (AllBelow (.int .i64 (tableE X Y V)) w) := by
  obtain ⟨Ax, cx, rfl, hcx⟩ := hR.x.form
  obtain ⟨Ay, cy, rfl, hcy⟩ := hR.y.form
  obtain ⟨Av, cv, rfl, hcv⟩ := hR.v.form
  have hlx := hR.lx
  have hly := hR.ly
  have hlv := hR.lv
  cases h1 : axB X
  · go_enter Try.func55, Try.ntmps55
    go_wp2_with fail
    refine (spans_axis _ X _ (hR.x.below (by exact ((Below.refl _ _).alloc (Nat.le_refl _) _).alloc (by simp) _)) hlx).mono ?_
    rintro e w' ⟨rfl, rfl⟩
    go_wp2
    go_ret
    exact ⟨ret_int (by simp [tableE, h1]), (by exact ((Below.refl _ _).alloc (Nat.le_refl _) _).alloc (by simp) _)⟩
  · cases h2 : axB Y
    · go_enter Try.func55, Try.ntmps55
      go_wp2_with fail
      refine (spans_axis _ X _ (hR.x.below (by exact ((Below.refl _ _).alloc (Nat.le_refl _) _).alloc (by simp) _)) hlx).mono ?_
      rintro e w' ⟨rfl, rfl⟩
      go_wp2_with fail
      refine (spans_axis _ Y _ (hR.y.below (by exact ((Below.refl _ _).alloc (Nat.le_refl _) _).alloc (by simp) _)) hly).mono ?_
      rintro e w' ⟨rfl, rfl⟩
      go_wp2
      go_ret
      exact ⟨ret_int (by simp [tableE, h2]), (by exact ((Below.refl _ _).alloc (Nat.le_refl _) _).alloc (by simp) _)⟩
    · by_cases h3 : V.length = X.length
      · have H3 := Lib.hid h3
        have h4 : (((V.length : Nat) : Int) != (X.length : Int)) = false := by simp [h3]
        clear h3
        cases h5 : anyBadRow Y.length V
        all_goals
          go_enter Try.func55, Try.ntmps55
          go_wp2_with fail
          refine (spans_axis _ X _ (hR.x.below (by exact ((Below.refl _ _).alloc (Nat.le_refl _) _).alloc (by simp) _)) hlx).mono ?_
          rintro e w' ⟨rfl, rfl⟩
          go_wp2_with fail
          refine (spans_axis _ Y _ (hR.y.below (by exact ((Below.refl _ _).alloc (Nat.le_refl _) _).alloc (by simp) _)) hly).mono ?_
          rintro e w' ⟨rfl, rfl⟩
          go_wp2_with fail
          refine (any84 _ V _ _ Ay Y.length cy _ (hR.v.below (by exact ((Below.refl _ _).alloc (Nat.le_refl _) _).alloc (by simp) _)) hlv hR.lr hly ?_ ?_).mono ?_
          · simp [go_sem]
          · simp [go_sem]
          rintro e w' ⟨rfl, rfl⟩
          go_wp2
          go_ret
          exact ⟨ret_int (by simp [tableE, h1, h2, H3.out, h5]), (by exact ((Below.refl _ _).alloc (Nat.le_refl _) _).alloc (by simp) _)⟩
      · have H3 := Lib.hid h3
        have h4 : (((V.length : Nat) : Int) != (X.length : Int)) = true := by simp; omega
        clear h3
        go_enter Try.func55, Try.ntmps55
        go_wp2_with fail
        refine (spans_axis _ X _ (hR.x.below (by exact ((Below.refl _ _).alloc (Nat.le_refl _) _).alloc (by simp) _)) hlx).mono ?_
        rintro e w' ⟨rfl, rfl⟩
        go_wp2_with fail
        refine (spans_axis _ Y _ (hR.y.below (by exact ((Below.refl _ _).alloc (Nat.le_refl _) _).alloc (by simp) _)) hly).mono ?_
        rintro e w' ⟨rfl, rfl⟩
        go_wp2
        go_ret
        exact ⟨ret_int (by simp [tableE, H3.out]), (by exact ((Below.refl _ _).alloc (Nat.le_refl _) _).alloc (by simp) _)⟩

end Go.Proofs.Ytliddinpfgpnfaa
