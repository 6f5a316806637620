/- Contracts: slices.ContainsFunc of whole numbers, and Swing's own test. -/
import Derived.Test.YtliddinpfgpnfaaA1
namespace Go.Proofs.Ytliddinpfgpnfaa
open Go Go.RowKit Go.Sort
set_option linter.unusedSimpArgs false
set_option linter.unusedVariables false

theorem swing_1 (n : Int) (w : World) : Calls Try.prog 44 #[.int .i64 n] w fun e w' => e = .returned (.bool (!wi n (-100) 100)) ∧ w = w' := by
  go_enter Try.func44, Try.ntmps44
  go_wp2_with (go_at_call 45; refine (sling_within _ _ _ _).mono ?_; rintro e w' ⟨rfl, rfl⟩)
  go_ret
  exact ⟨rfl, rfl⟩

/-- The first element of which p holds, or -1. -/
def idxF {α : Type} (p : α → Bool) (zs : List α) : Int := match zs.findIdx? p with | some i => i | none => -1

/-- p holds of none of the first k. -/
def noneTo {α : Type} (p : α → Bool) (zs : List α) (k : Nat) : Prop := ∀ (j : Nat) (x : α), j < k → zs[j]? = some x → p x = false

theorem noneTo_zero {α : Type} (p : α → Bool) (zs : List α) : noneTo p zs 0 := fun j x hj => by omega
theorem noneTo_succ {α : Type} {p : α → Bool} {zs : List α} {k : Nat} {x : α} (h : noneTo p zs k) (hx : zs[k]? = some x) (hp : p x = false) : noneTo p zs (k + 1) := by
  intro j y hj hy
  by_cases e : j = k
  · subst e; rw [hx] at hy; cases hy; exact hp
  · exact h j y (by omega) hy

theorem idxF_none {α : Type} {p : α → Bool} {zs : List α} {k : Nat} (h : noneTo p zs k) (hk : ¬ k < zs.length) : idxF p zs = -1 := by
  have : zs.findIdx? p = none := by
    rw [List.findIdx?_eq_none_iff]
    intro x hx
    obtain ⟨j, hj, rfl⟩ := List.getElem_of_mem hx
    exact h j _ (by omega) (by simp)
  simp [idxF, this]

theorem idxF_some {α : Type} {p : α → Bool} {zs : List α} {k : Nat} {x : α} (h : noneTo p zs k) (hx : zs[k]? = some x) (hp : p x = true) : idxF p zs = k := by
  obtain ⟨hk, rfl⟩ := List.getElem?_eq_some_iff.1 hx
  have : zs.findIdx? p = some k := by
    rw [List.findIdx?_eq_some_iff_getElem]
    exact ⟨hk, hp, fun j hj => by rw [h j _ hj (by simp)]; simp⟩
  simp [idxF, this]

theorem idxF_any {α : Type} (p : α → Bool) (zs : List α) : decide (0 ≤ idxF p zs) = zs.any p := by
  unfold idxF
  cases h : zs.findIdx? p with
  | none => rw [List.findIdx?_eq_none_iff] at h; symm; simpa using h
  | some i => rw [List.findIdx?_eq_some_iff_getElem] at h; obtain ⟨hi, hp, _⟩ := h; simp; exact ⟨_, List.getElem_mem hi, hp⟩

theorem RI.at {w : World} {v : Value} {zs : List Int} {k : Nat} (h : RI w v zs) (hk : k < zs.length) :
    ∃ b o c x, v = .slice (some ⟨b, o, none⟩) zs.length c ∧ b < w.heap.size ∧ zs[k]? = some x ∧ w.cell? ⟨b, o + k, none⟩ = some (.int .i64 x) := by
  obtain ⟨b, o, c, e, hc, hb, hcell⟩ := h.open (by omega)
  exact ⟨b, o, c, zs[k], e, hb, by simp, by have := hcell k hk; simpa [List.getD_eq_getElem?_getD, hk] using this⟩

set_option maxHeartbeats 1600000 in
theorem idx44 (v : Value) (zs : List Int) (w : World) (hR : RI w v zs) (hl : zs.length ≤ 1000000000000000000) :
    Calls Try.prog 78 #[v, .func (.func 44) #[] #[]] w fun e w' => e = .returned (.int .i64 (idxF (fun n => !wi n (-100) 100) zs)) ∧ w = w' := by
  obtain ⟨A, c, rfl, hc⟩ := hR.form
  go_enter Try.func78, Try.ntmps78
  go_wp2
  go_loop [8] (fun s8 => ∃ k : Nat, s8 = .int .i64 k ∧ k ≤ zs.length ∧ noneTo (fun n => !wi n (-100) 100) zs k) (fun s8 => zs.length - (intOf s8).toNat)
  case atStart => exact ⟨0, rfl, by omega, noneTo_zero _ _⟩
  case round =>
    obtain ⟨k, rfl, hk, hno⟩ := hrel
    by_cases hlt : k < zs.length
    · obtain ⟨b, o, c', x, e, hb, hx, hcell⟩ := hR.at hlt
      cases e
      have Hx := Lib.hid hx
      clear hx
      cases hp : wi x (-100) 100
      all_goals
        go_wp2_with (go_at_call 44; refine (swing_1 _ _).mono ?_; rintro e w' ⟨rfl, rfl⟩)
      · go_ret
        exact ⟨ret_int (idxF_some hno Hx.out (by simp [hp])).symm, rfl⟩
      · go_round
        case rel => exact ⟨k + 1, by go_num, by omega, noneTo_succ hno Hx.out (by simp [hp])⟩
        case measure => simp [intOf]; omega
    · go_wp2
      go_ret
      exact ⟨ret_int (idxF_none hno hlt).symm, rfl⟩

/-- Some number is no gust. -/
def badG (zs : List Int) : Bool := zs.any fun n => !wi n (-100) 100

theorem any44 (v : Value) (zs : List Int) (w : World) (hR : RI w v zs) (hl : zs.length ≤ 1000000000000000000) :
    Calls Try.prog 43 #[v, .func (.func 44) #[] #[]] w fun e w' => e = .returned (.bool (badG zs)) ∧ w = w' := by
  have H := Lib.hid (idxF_any (fun n => !wi n (-100) 100) zs)
  go_enter Try.func43, Try.ntmps43
  go_wp2_with (go_at_call 78; refine (idx44 _ zs _ hR hl).mono ?_; rintro e w' ⟨rfl, rfl⟩)
  go_ret
  exact ⟨ret_bool H.out, rfl⟩
end Go.Proofs.Ytliddinpfgpnfaa
