/- Contracts of the specification: Carries and Deepest. -/
import Derived.Test.YtliddinpfgpnfaaR7
import Derived.Test.YtliddinpfgpnfaaA18
namespace Go.Proofs.Ytliddinpfgpnfaa
open Go Go.RowKit Go.Sort
set_option linter.unusedSimpArgs false
set_option linter.unusedVariables false

/-- What the specification's Carries answers. -/
def carS (cable : Int) (X Y : List Int) (V : List (List Int)) (charge lo hi length weight : Int) : Bool × Int :=
  if windsE cable X Y V charge lo hi ≠ 0 then (false, windsE cable X Y V charge lo hi)
  else if wi length 0 cable = false then (false, 1) else if wi weight 1 100000 = false then (false, 1) else (bearB X Y V lo hi length weight, 0)

set_option maxRecDepth 100000 in
set_option maxHeartbeats 3200000 in
theorem ref_Carries (vX vY vV : Value) (X Y : List Int) (V : List (List Int)) (cable charge lo hi length weight : Int) (w : World) (hR : RT w vX vY vV X Y V) :
    Calls Try.prog 18 #[.agg #[.int .i64 cable, vX, vY, vV, .int .i64 charge], .agg #[.int .i64 lo, .int .i64 hi], .int .i64 length, .int .i64 weight] w (CPost (carS cable X Y V charge lo hi length weight) w) := by
  have B2 := hoW_below cable vX vY vV charge lo hi w
  have z2 : (hoW cable vX vY vV charge lo hi w).heap.size = w.heap.size + 1 + 1 := by simp
  by_cases h1 : windsE cable X Y V charge lo hi = 0
  · have H1 := Lib.hid h1
    clear h1
    cases h2 : wi length 0 cable
    · go_enter Try.func18, Try.ntmps18
      go_wp2_with fail
      refine (ref_CheckWinds cable charge lo hi vX vY vV X Y V _ (hR.below B2)).mono ?_
      rintro e w1 ⟨rfl, hb⟩
      rw [H1.out]
      have E1 := B2.trans (hb.mono (by rw [z2]; omega))
      rw [z2] at hb
      obtain ⟨⟨q0, q1, q2, q3, q4⟩, ⟨q5, q6⟩, q7⟩ := box52 hb
      go_wp2_with (go_at_call 48; refine (ref_within _ _ _ _).mono ?_; rintro e w' ⟨rfl, rfl⟩)
      go_ret2
      exact ⟨by rw [carS, if_neg (by rw [H1.out]; simp), if_pos h2]; rfl, E1⟩
    · cases h3 : wi weight 1 100000
      · go_enter Try.func18, Try.ntmps18
        go_wp2_with fail
        refine (ref_CheckWinds cable charge lo hi vX vY vV X Y V _ (hR.below B2)).mono ?_
        rintro e w1 ⟨rfl, hb⟩
        rw [H1.out]
        have E1 := B2.trans (hb.mono (by rw [z2]; omega))
        rw [z2] at hb
        obtain ⟨⟨q0, q1, q2, q3, q4⟩, ⟨q5, q6⟩, q7⟩ := box52 hb
        go_wp2_with (go_at_call 48; refine (ref_within _ _ _ _).mono ?_; rintro e w' ⟨rfl, rfl⟩)
        go_ret2
        exact ⟨by rw [carS, if_neg (by rw [H1.out]; simp), if_neg (by rw [h2]; simp), if_pos h3]; rfl, E1⟩
      · go_enter Try.func18, Try.ntmps18
        go_wp2_with fail
        refine (ref_CheckWinds cable charge lo hi vX vY vV X Y V _ (hR.below B2)).mono ?_
        rintro e w1 ⟨rfl, hb⟩
        rw [H1.out]
        have E1 := B2.trans (hb.mono (by rw [z2]; omega))
        rw [z2] at hb
        obtain ⟨⟨q0, q1, q2, q3, q4⟩, ⟨q5, q6⟩, q7⟩ := box52 hb
        go_wp2_with (go_at_call 48; refine (ref_within _ _ _ _).mono ?_; rintro e w' ⟨rfl, rfl⟩)
        refine (ref_bears vX vY vV X Y V cable charge lo hi length weight _ (hR.below E1)).mono ?_
        rintro e w2 ⟨rfl, hb2⟩
        have E2 := E1.trans (hb2.mono E1.size)
        go_wp2_with fail
        go_ret2
        exact ⟨by rw [carS, if_neg (by rw [H1.out]; simp), if_neg (by rw [h2]; simp), if_neg (by rw [h3]; simp)]; rfl, E2⟩
  · have h1b : (windsE cable X Y V charge lo hi != 0) = true := by simpa using h1
    have H1 := Lib.hid h1
    clear h1
    go_enter Try.func18, Try.ntmps18
    go_wp2_with fail
    refine (ref_CheckWinds cable charge lo hi vX vY vV X Y V _ (hR.below B2)).mono ?_
    rintro e w1 ⟨rfl, hb⟩
    have E1 := B2.trans (hb.mono (by rw [z2]; omega))
    go_wp2_with fail
    go_ret2
    exact ⟨by rw [carS, if_pos H1.out]; rfl, E1⟩

/-- The last length up to which all pass, from 0 on; -1: none. -/
def firstRun (p : Int → Bool) (n : Nat) : Int := match (List.range (n + 1)).findIdx? (fun (d : Nat) => !p (d : Int)) with | some i => (i : Int) - 1 | none => n

def deepS (cable : Int) (X Y : List Int) (V : List (List Int)) (charge lo hi weight : Int) : Int × Int :=
  if windsE cable X Y V charge lo hi ≠ 0 then (0, windsE cable X Y V charge lo hi) else if wi weight 1 100000 = false then (0, 1)
  else if firstRun (fun d => bearB X Y V lo hi d weight) cable.toNat < 0 then (0, 3) else (firstRun (fun d => bearB X Y V lo hi d weight) cable.toNat, 0)

theorem firstRun_stop {p : Int → Bool} {n k : Nat} (h : ∀ j : Nat, j < k → p (j : Int) = true) (hk : k ≤ n) (hp : p (k : Int) = false) : firstRun p n = (k : Int) - 1 := by
  have : (List.range (n + 1)).findIdx? (fun (d : Nat) => !p (d : Int)) = some k := by
    rw [List.findIdx?_eq_some_iff_getElem]
    refine ⟨by simp; omega, by simp [hp], fun j hj => by simp [h j hj]⟩
  rw [firstRun, this]
theorem firstRun_all {p : Int → Bool} {n : Nat} (h : ∀ j : Nat, j < n + 1 → p (j : Int) = true) : firstRun p n = n := by
  have : (List.range (n + 1)).findIdx? (fun (d : Nat) => !p (d : Int)) = none := by
    rw [List.findIdx?_eq_none_iff]
    intro d hd
    simp at hd
    simp [h d (by omega)]
  rw [firstRun, this]

set_option maxRecDepth 100000 in
set_option maxHeartbeats 3200000 in
theorem ref_Deepest (vX vY vV : Value) (X Y : List Int) (V : List (List Int)) (cable charge lo hi weight : Int) (w : World) (hR : RT w vX vY vV X Y V) :
    Calls Try.prog 20 #[.agg #[.int .i64 cable, vX, vY, vV, .int .i64 charge], .agg #[.int .i64 lo, .int .i64 hi], .int .i64 weight] w (DPost (deepS cable X Y V charge lo hi weight) w) := by
  have B2 := hoW_below cable vX vY vV charge lo hi w
  have z2 : (hoW cable vX vY vV charge lo hi w).heap.size = w.heap.size + 1 + 1 := by simp
  by_cases h1 : windsE cable X Y V charge lo hi = 0
  · have hho : hoistE cable X Y V charge = 0 := by
      unfold windsE at h1
      rcases hoistE_or cable X Y V charge with h | h
      · exact h
      · rw [if_pos (by rw [h]; decide), h] at h1; omega
    obtain ⟨c1, c2, -⟩ := hoistE_zero hho
    have H1 := Lib.hid h1
    clear h1 hho
    cases h2 : wi weight 1 100000
    · go_enter Try.func20, Try.ntmps20
      go_wp2_with fail
      refine (ref_CheckWinds cable charge lo hi vX vY vV X Y V _ (hR.below B2)).mono ?_
      rintro e w1 ⟨rfl, hb⟩
      rw [H1.out]
      have E1 := B2.trans (hb.mono (by rw [z2]; omega))
      go_wp2_with (go_at_call 48; refine (ref_within _ _ _ _).mono ?_; rintro e w' ⟨rfl, rfl⟩)
      go_ret2
      exact ⟨by rw [deepS, if_neg (by rw [H1.out]; simp), if_pos h2]; rfl, E1⟩
    · obtain ⟨n, hn⟩ : ∃ n : Nat, cable = n := ⟨cable.toNat, by omega⟩
      subst hn
      go_enter Try.func20, Try.ntmps20
      go_wp2_with fail
      refine (ref_CheckWinds _ charge lo hi vX vY vV X Y V _ (hR.below B2)).mono ?_
      rintro e w1 ⟨rfl, hb⟩
      rw [H1.out]
      have E1 := B2.trans (hb.mono (by rw [z2]; omega))
      rw [z2] at hb
      go_wp2_with (go_at_call 48; refine (ref_within _ _ _ _).mono ?_; rintro e w' ⟨rfl, rfl⟩)
      go_loopw [9, 10] (fun s9 s10 wr => ∃ k : Nat, s10 = .int .i64 k ∧ s9 = .int .i64 ((k : Int) - 1) ∧ k ≤ n + 1 ∧ (∀ j : Nat, j < k → bearB X Y V lo hi j weight = true) ∧ Below (w.heap.size + 1 + 1) (hoW n vX vY vV charge lo hi w) wr) (fun _ s10 _ => n + 1 - (intOf s10).toNat)
      case atStart => exact ⟨0, rfl, rfl, by omega, fun j hj => by omega, hb⟩
      case round =>
        obtain ⟨k, rfl, rfl, hk, hall, hbl⟩ := hrel
        have HA := Lib.hid hall
        clear hall
        have E2 := B2.trans (hbl.mono (by omega))
        obtain ⟨⟨q0, q1, q2, q3, q4⟩, ⟨q5, q6⟩, q7⟩ := box52 hbl
        by_cases hkn : k ≤ n
        · cases hp : bearB X Y V lo hi k weight
          · go_wp2_with fail
            refine (ref_bears vX vY vV X Y V n charge lo hi k weight _ (hR.below E2)).mono ?_
            rintro e w3 ⟨rfl, hb3⟩
            rw [hp]
            have E3 := E2.trans (hb3.mono E2.size)
            have Hp := Lib.hid (firstRun_stop (p := fun d => bearB X Y V lo hi d weight) HA.out hkn hp)
            by_cases hk0 : k = 0
            · have Hk0 := Lib.hid hk0
              have hk1 : (k : Int) - 1 < 0 := by omega
              clear hk0
              go_wp2_with fail
              go_ret2
              exact ⟨by rw [deepS, if_neg (by rw [H1.out]; simp), if_neg (by rw [h2]; simp), if_pos (by rw [Int.toNat_natCast, Hp.out]; omega)]; rfl, E3⟩
            · have hk1 : ¬ (k : Int) - 1 < 0 := by omega
              clear hk0
              go_wp2_with fail
              go_ret2
              exact ⟨by rw [deepS, if_neg (by rw [H1.out]; simp), if_neg (by rw [h2]; simp), if_neg (by rw [Int.toNat_natCast, Hp.out]; omega), Int.toNat_natCast, Hp.out]; rfl, E3⟩
          · go_wp2_with fail
            refine (ref_bears vX vY vV X Y V n charge lo hi k weight _ (hR.below E2)).mono ?_
            rintro e w3 ⟨rfl, hb3⟩
            rw [hp]
            have G3 := hbl.trans (hb3.mono (by omega))
            have Hp := Lib.hid hp
            go_wp2_with fail
            go_roundw
            case rel =>
              refine ⟨k + 1, by go_num, by simp, by omega, fun j hj => ?_, G3⟩
              by_cases e0 : j = k
              · subst e0; exact Hp.out
              · exact HA.out j (by omega)
            case measure => simp [intOf]; omega
        · obtain rfl : k = n + 1 := by omega
          have Hp := Lib.hid (firstRun_all (p := fun d => bearB X Y V lo hi d weight) HA.out)
          have hk1 : ¬ ((n : Int) + 1 - 1 < 0) := by omega
          go_wp2_with fail
          go_ret2
          exact ⟨by rw [deepS, if_neg (by rw [H1.out]; simp), if_neg (by rw [h2]; simp), if_neg (by rw [Int.toNat_natCast, Hp.out]; omega), Int.toNat_natCast, Hp.out]; rfl, E2⟩
  · have h1b : (windsE cable X Y V charge lo hi != 0) = true := by simpa using h1
    have H1 := Lib.hid h1
    clear h1
    go_enter Try.func20, Try.ntmps20
    go_wp2_with fail
    refine (ref_CheckWinds cable charge lo hi vX vY vV X Y V _ (hR.below B2)).mono ?_
    rintro e w1 ⟨rfl, hb⟩
    have E1 := B2.trans (hb.mono (by rw [z2]; omega))
    go_wp2_with fail
    go_ret2
    exact ⟨by rw [deepS, if_pos H1.out]; rfl, E1⟩

end Go.Proofs.Ytliddinpfgpnfaa
