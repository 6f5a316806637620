/- Contracts: Deepest and Carries. -/
import Derived.Test.YtliddinpfgpnfaaA17
namespace Go.Proofs.Ytliddinpfgpnfaa
open Go Go.RowKit Go.Sort
set_option linter.unusedSimpArgs false
set_option linter.unusedVariables false

/-- The greatest length, from n down, that passes. -/
def deepN (p : Int → Bool) : Nat → Option Nat
  | 0 => if p 0 then some 0 else none
  | n + 1 => if p ((n + 1 : Nat) : Int) then some (n + 1) else deepN p n

theorem deepN_true {p : Int → Bool} {n : Nat} (h : p (n : Int) = true) : deepN p n = some n := by
  cases n with
  | zero => rw [deepN, if_pos (by simpa using h)]
  | succ n => rw [deepN, if_pos h]

theorem deepN_false {p : Int → Bool} {n : Nat} (h : p (n : Int) = false) : deepN p n = if n = 0 then none else deepN p (n - 1) := by
  cases n with
  | zero => rw [deepN, if_neg (by simpa using h), if_pos rfl]
  | succ n => rw [deepN, if_neg (by rw [h]; simp), if_neg (by omega)]; rfl

def deepOf (p : Int → Bool) (n : Nat) : Int × Int := match deepN p n with | some d => ((d : Int), 0) | none => (0, 3)

def deepR (cable : Int) (X Y : List Int) (V : List (List Int)) (charge lo hi weight : Int) : Int × Int :=
  if winchE cable X Y V charge lo hi ≠ 0 then (0, winchE cable X Y V charge lo hi)
  else if liesB Y lo hi = false then (0, 1) else if wi weight 1 100000 = false then (0, 1)
  else deepOf (fun d => carB X Y V lo hi 0 d weight) cable.toNat

/-- Where the search stands. -/
def DeepAt (p : Int → Bool) (n : Nat) (i : Int) : Prop := (0 ≤ i ∧ deepN p n = deepN p i.toNat) ∨ (i = -1 ∧ deepN p n = none)

theorem DeepAt.next {p : Int → Bool} {n : Nat} {i : Int} (h : DeepAt p n i) (hi : 0 ≤ i) (hp : p i = false) : DeepAt p n (i - 1) := by
  rcases h with ⟨_, h⟩ | ⟨h, _⟩
  · have e : ((i.toNat : Nat) : Int) = i := by omega
    rw [deepN_false (n := i.toNat) (by rw [e]; exact hp)] at h
    by_cases hz : i.toNat = 0
    · rw [if_pos hz] at h; exact Or.inr ⟨by omega, h⟩
    · rw [if_neg hz] at h; exact Or.inl ⟨by omega, by rw [h]; congr 1; omega⟩
  · omega

theorem DeepAt.found {p : Int → Bool} {n : Nat} {i : Int} (h : DeepAt p n i) (hi : 0 ≤ i) (hp : p i = true) : deepOf p n = (i, 0) := by
  rcases h with ⟨_, h⟩ | ⟨h, _⟩
  · have e : ((i.toNat : Nat) : Int) = i := by omega
    rw [deepOf, h, deepN_true (by rw [e]; exact hp)]; simp [e]
  · omega

theorem DeepAt.none {p : Int → Bool} {n : Nat} {i : Int} (h : DeepAt p n i) (hi : ¬ 0 ≤ i) : deepOf p n = (0, 3) := by
  rcases h with ⟨_, h⟩ | ⟨_, h⟩
  · omega
  · rw [deepOf, h]

def WinchOk (cable : Int) (vX vY vV : Value) (charge lo hi : Int) (b : Bool) (W : World) (e : Ending) (w' : World) : Prop :=
  Below W.heap.size W w' ∧ ∃ g, W.heap.size ≤ g ∧ e = .returned (.tuple #[.pointer (some ⟨g, 0, none⟩), .bool b, .int .i64 0]) ∧ w'.heap[g]? = some (.cells (winchC cable vX vY vV charge lo hi 0 0 0 0 false false) 107 (0, 0))

theorem WinchPost.ok {cable : Int} {vX vY vV : Value} {X Y : List Int} {V : List (List Int)} {charge lo hi : Int} {W : World} {e : Ending} {w' : World} (h0 : winchE cable X Y V charge lo hi = 0) (h : WinchPost cable vX vY vV X Y V charge lo hi W e w') :
    WinchOk cable vX vY vV charge lo hi (liesB Y lo hi) W e w' := by
  obtain ⟨hb, h | ⟨_, g, h1, h2, h3⟩⟩ := h
  · exact absurd h0 h.1
  · exact ⟨hb, g, h1, h2, h3⟩

theorem WinchPost.bad {cable : Int} {vX vY vV : Value} {X Y : List Int} {V : List (List Int)} {charge lo hi : Int} {W : World} {e : Ending} {w' : World} (h0 : winchE cable X Y V charge lo hi ≠ 0) (h : WinchPost cable vX vY vV X Y V charge lo hi W e w') :
    AllBelow (.tuple #[.pointer none, .bool false, .int .i64 (winchE cable X Y V charge lo hi)]) W e w' := by
  obtain ⟨hb, h | h⟩ := h
  · exact ⟨h.2, hb⟩
  · exact absurd h.1 h0

def DPost (r : Int × Int) (w : World) (e : Ending) (w' : World) : Prop := AllBelow (.tuple #[.int .i64 r.1, .int .i64 r.2]) w e w'

set_option maxRecDepth 100000 in
set_option maxHeartbeats 6400000 in
theorem sling_Deepest (vX vY vV : Value) (X Y : List Int) (V : List (List Int)) (cable charge lo hi weight : Int) (w : World) (hR : RT w vX vY vV X Y V) :
    Calls Try.prog 19 #[.agg #[.int .i64 cable, vX, vY, vV, .int .i64 charge], .agg #[.int .i64 lo, .int .i64 hi], .int .i64 weight] w (DPost (deepR cable X Y V charge lo hi weight) w) := by
  have B2 := ((Below.refl w.heap.size w).alloc (Nat.le_refl _) (.cells #[.int .i64 cable, vX, vY, vV, .int .i64 charge] 42)).alloc (by simp) (.cells #[.int .i64 lo, .int .i64 hi] 27)
  have hN := sling_newWinch cable charge lo hi vX vY vV X Y V _ (hR.below B2)
  by_cases h0 : winchE cable X Y V charge lo hi = 0
  · have hc : 1 ≤ cable ∧ cable ≤ 100 := by
      rw [winchE] at h0
      split at h0
      · rename_i h; have := hoistE_zero h; exact ⟨this.1, this.2.1⟩
      · omega
    obtain ⟨p, hp⟩ : ∃ p : Int → Bool, (fun d => carB X Y V lo hi 0 d weight) = p := ⟨_, rfl⟩
    have hp2 : ∀ d, carB X Y V lo hi 0 d weight = p d := fun d => by rw [← hp]
    have hr : deepR cable X Y V charge lo hi weight = if liesB Y lo hi = false then (0, 1) else if wi weight 1 100000 = false then (0, 1) else deepOf p cable.toNat := by rw [deepR, if_neg (by simpa using h0), hp]
    rw [hr]
    have HP := Lib.hid hp2
    clear hp hp2 hr
    have hN2 := hN.mono (fun e w' h => WinchPost.ok h0 h)
    clear hN
    cases hl : liesB Y lo hi
    · rw [hl] at hN2
      rw [if_pos rfl]
      go_enter Try.func19, Try.ntmps19
      go_wp2_with fail
      refine hN2.mono ?_
      rintro e w1 ⟨hb1, g, hg, rfl, hk⟩
      have E1 := B2.trans (hb1.mono B2.size)
      go_wp2
      go_ret2
      exact ⟨rfl, E1⟩
    · rw [hl] at hN2
      rw [if_neg (by simp)]
      cases hw : wi weight 1 100000
      · have hW := Lib.hid hw
        rw [if_pos rfl]
        go_enter Try.func19, Try.ntmps19
        go_wp2_with fail
        refine hN2.mono ?_
        rintro e w1 ⟨hb1, g, hg, rfl, hk⟩
        have E1 := B2.trans (hb1.mono B2.size)
        go_wp2_with (refine (sling_within _ _ _ _).mono ?_; rintro e w' ⟨rfl, rfl⟩)
        have hw := hW.out
        go_wp2
        go_ret2
        exact ⟨rfl, E1⟩
      · have hW := Lib.hid hw
        rw [if_neg (by simp)]
        go_enter Try.func19, Try.ntmps19
        go_wp2_with fail
        refine hN2.mono ?_
        rintro e w1 ⟨hb1, g, hg, rfl, hk⟩
        have R1 := (hR.below B2).below hb1
        have E1 := B2.trans (hb1.mono B2.size)
        obtain ⟨hc1, hf1, hs1⟩ := bcell hb1
        have hz0 : w.heap.size < w1.heap.size := by simp at hs1; omega
        clear hb1
        go_wp2_with (refine (sling_within _ _ _ _).mono ?_; rintro e w' ⟨rfl, rfl⟩)
        have hw := hW.out
        go_wp2
        go_loopw [11] (fun s11 wr => ∃ i : Int, s11 = .int .i64 i ∧ i ≤ cable ∧ DeepAt p cable.toNat i ∧ Below w1.heap.size w1 wr) (fun s11 _ => (intOf s11 + 1).toNat)
        case atStart => exact ⟨cable, rfl, by omega, Or.inl ⟨by omega, rfl⟩, Below.refl _ _⟩
        case round =>
          obtain ⟨i, rfl, hic, hat, hbl⟩ := hrel
          have hK := blk_below hk hbl
          have hR2 := R1.below hbl
          by_cases h1 : 0 ≤ i
          · have hC := winch_carries vX vY vV X Y V cable charge lo hi 0 0 0 0 false false 0 i weight g wr hR2 hK
            rw [HP.out] at hC
            cases hq : p i
            all_goals
              rw [hq] at hC
              have HQ := Lib.hid hq
              have HA := Lib.hid hat
              clear hat hq
              go_wp2_with fail
              refine hC.mono ?_
              rintro e w2 ⟨rfl, hb2⟩
              have hb3 := hbl.trans (hb2.mono hbl.size)
              clear hb2
              go_wp2
            · go_round
              case rel => exact ⟨i - 1, by go_num, by omega, HA.out.next h1 HQ.out, hb3⟩
              case measure => simp [intOf]; omega
            · go_ret2
              exact ⟨by rw [HA.out.found h1 HQ.out]; rfl, E1.trans (hb3.mono E1.size)⟩
          · have HA := Lib.hid hat
            clear hat
            go_wp2
            go_ret2
            exact ⟨by rw [HA.out.none (by omega)]; rfl, E1.trans (hbl.mono E1.size)⟩
  · have hN2 := hN.mono (fun e w' h => WinchPost.bad h0 h)
    clear hN
    have hn0 : (winchE cable X Y V charge lo hi != 0) = true := by simpa using h0
    have hr : deepR cable X Y V charge lo hi weight = (0, winchE cable X Y V charge lo hi) := by rw [deepR, if_pos h0]
    rw [hr]
    clear h0 hr
    generalize winchE cable X Y V charge lo hi = e0 at *
    go_enter Try.func19, Try.ntmps19
    go_wp2_with fail
    refine hN2.mono ?_
    rintro e w1 ⟨rfl, hb1⟩
    have E1 := B2.trans (hb1.mono B2.size)
    go_wp2
    go_ret2
    exact ⟨rfl, E1⟩

/-- What Carries answers. -/
def carR (cable : Int) (X Y : List Int) (V : List (List Int)) (charge lo hi length weight : Int) : Bool × Int :=
  if winchE cable X Y V charge lo hi ≠ 0 then (false, winchE cable X Y V charge lo hi)
  else if liesB Y lo hi = false then (false, 1) else if wi length 0 cable = false then (false, 1) else if wi weight 1 100000 = false then (false, 1)
  else (carB X Y V lo hi length length weight, 0)

def CPost (r : Bool × Int) (w : World) (e : Ending) (w' : World) : Prop := AllBelow (.tuple #[.bool r.1, .int .i64 r.2]) w e w'

set_option maxRecDepth 100000 in
set_option maxHeartbeats 6400000 in
theorem sling_Carries (vX vY vV : Value) (X Y : List Int) (V : List (List Int)) (cable charge lo hi length weight : Int) (w : World) (hR : RT w vX vY vV X Y V) :
    Calls Try.prog 17 #[.agg #[.int .i64 cable, vX, vY, vV, .int .i64 charge], .agg #[.int .i64 lo, .int .i64 hi], .int .i64 length, .int .i64 weight] w (CPost (carR cable X Y V charge lo hi length weight) w) := by
  have B2 := ((Below.refl w.heap.size w).alloc (Nat.le_refl _) (.cells #[.int .i64 cable, vX, vY, vV, .int .i64 charge] 42)).alloc (by simp) (.cells #[.int .i64 lo, .int .i64 hi] 27)
  have hN := sling_newWinch cable charge lo hi vX vY vV X Y V _ (hR.below B2)
  by_cases h0 : winchE cable X Y V charge lo hi = 0
  · have hr : carR cable X Y V charge lo hi length weight = if liesB Y lo hi = false then (false, 1) else if wi length 0 cable = false then (false, 1) else if wi weight 1 100000 = false then (false, 1) else (carB X Y V lo hi length length weight, 0) := by rw [carR, if_neg (by simpa using h0)]
    rw [hr]
    clear hr
    have hN2 := hN.mono (fun e w' h => WinchPost.ok h0 h)
    clear hN
    cases hl : liesB Y lo hi
    · rw [hl] at hN2
      rw [if_pos rfl]
      go_enter Try.func17, Try.ntmps17
      go_wp2_with fail
      refine hN2.mono ?_
      rintro e w1 ⟨hb1, g, hg, rfl, hk⟩
      have E1 := B2.trans (hb1.mono B2.size)
      go_wp2
      go_ret2
      exact ⟨rfl, E1⟩
    · rw [hl] at hN2
      rw [if_neg (by simp)]
      cases hw1 : wi length 0 cable
      · rw [if_pos rfl]
        have HW1 := Lib.hid hw1
        go_enter Try.func17, Try.ntmps17
        go_wp2_with fail
        refine hN2.mono ?_
        rintro e w1 ⟨hb1, g, hg, rfl, hk⟩
        have E1 := B2.trans (hb1.mono B2.size)
        obtain ⟨hc1, hf1, hs1⟩ := bcell hb1
        have hz0 : w.heap.size < w1.heap.size := by simp at hs1; omega
        clear hb1
        go_wp2_with (refine (sling_within _ _ _ _).mono ?_; rintro e w' ⟨rfl, rfl⟩)
        go_ret2
        exact ⟨rfl, E1⟩
      · rw [if_neg (by simp)]
        cases hw2 : wi weight 1 100000
        · rw [if_pos rfl]
          have HW1 := Lib.hid hw1
          have HW2 := Lib.hid hw2
          go_enter Try.func17, Try.ntmps17
          go_wp2_with fail
          refine hN2.mono ?_
          rintro e w1 ⟨hb1, g, hg, rfl, hk⟩
          have E1 := B2.trans (hb1.mono B2.size)
          obtain ⟨hc1, hf1, hs1⟩ := bcell hb1
          have hz0 : w.heap.size < w1.heap.size := by simp at hs1; omega
          clear hb1
          go_wp2_with (refine (sling_within _ _ _ _).mono ?_; rintro e w' ⟨rfl, rfl⟩)
          go_ret2
          exact ⟨rfl, E1⟩
        · rw [if_neg (by simp)]
          go_enter Try.func17, Try.ntmps17
          go_wp2_with fail
          refine hN2.mono ?_
          rintro e w1 ⟨hb1, g, hg, rfl, hk⟩
          have R1 := (hR.below B2).below hb1
          have E1 := B2.trans (hb1.mono B2.size)
          obtain ⟨hc1, hf1, hs1⟩ := bcell hb1
          have hz0 : w.heap.size < w1.heap.size := by simp at hs1; omega
          clear hb1
          go_wp2_with (first | (go_at_call 45; refine (sling_within _ _ _ _).mono ?_; rintro e w' ⟨rfl, rfl⟩) | fail)
          go_wp2_with fail
          refine (sling_at length w1).mono ?_
          rintro e w2 ⟨rfl, hb2⟩
          have E2 := E1.trans (hb2.mono E1.size)
          have R2 := R1.below hb2
          have hk2 := blk_below hk hb2
          clear hb2
          go_wp2_with fail
          refine (winch_carries vX vY vV X Y V cable charge lo hi 0 0 0 0 false false length length weight g w2 R2 hk2).mono ?_
          rintro e w3 ⟨rfl, hb3⟩
          have E3 := E2.trans (hb3.mono E2.size)
          go_wp2
          go_ret2
          exact ⟨rfl, E3⟩
  · have hN2 := hN.mono (fun e w' h => WinchPost.bad h0 h)
    clear hN
    have hn0 : (winchE cable X Y V charge lo hi != 0) = true := by simpa using h0
    have hr : carR cable X Y V charge lo hi length weight = (false, winchE cable X Y V charge lo hi) := by rw [carR, if_pos h0]
    rw [hr]
    clear h0 hr
    generalize winchE cable X Y V charge lo hi = e0 at *
    go_enter Try.func17, Try.ntmps17
    go_wp2_with fail
    refine hN2.mono ?_
    rintro e w1 ⟨rfl, hb1⟩
    have E1 := B2.trans (hb1.mono B2.size)
    go_wp2
    go_ret2
    exact ⟨rfl, E1⟩

end Go.Proofs.Ytliddinpfgpnfaa
