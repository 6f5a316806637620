/- Contract: the law SlingDeep. -/
import Derived.Test.YtliddinpfgpnfaaA22
import Derived.Test.YtliddinpfgpnfaaA23
namespace Go.Proofs.Ytliddinpfgpnfaa
open Go Go.RowKit Go.Sort
set_option linter.unusedSimpArgs false
set_option linter.unusedVariables false

theorem car_main {cable : Int} {X Y : List Int} {V : List (List Int)} {charge lo hi : Int} (h : windsE cable X Y V charge lo hi = 0) {n weight : Int} (h0 : 0 ≤ n) (h1 : n ≤ cable) (w0 : 1 ≤ weight) (w1 : weight ≤ 100000) :
    carR cable X Y V charge lo hi n weight = (bearB X Y V lo hi n weight, 0) := by
  rw [car_eq, carS, if_neg (by rw [h]; simp), if_neg (by rw [wi_iff'.2 ⟨h0, h1⟩]; simp), if_neg (by rw [wi_iff'.2 ⟨w0, w1⟩]; simp)]

theorem deep_main {cable : Int} {X Y : List Int} {V : List (List Int)} {charge lo hi : Int} (h : windsE cable X Y V charge lo hi = 0) {weight : Int} (w0 : 1 ≤ weight) (w1 : weight ≤ 100000) :
    ∃ k : Nat, k ≤ cable.toNat + 1 ∧ deepR cable X Y V charge lo hi weight = (if k = 0 then (0, 3) else ((k : Int) - 1, 0)) ∧ ∀ j : Nat, j ≤ cable.toNat → j ≤ k → bearB X Y V lo hi j weight = decide (j < k) := by
  obtain ⟨k, hk, hf, hd⟩ := firstRun_cut (fun d => bearB X Y V lo hi d weight) cable.toNat
  refine ⟨k, hk, ?_, fun j hj hjk => ?_⟩
  · rw [deep_eq, deepS, if_neg (by rw [h]; simp), if_neg (by rw [wi_iff'.2 ⟨w0, w1⟩]; simp), hf]
    by_cases hk0 : k = 0
    · rw [if_pos hk0, if_pos (by omega)]
    · rw [if_neg hk0, if_neg (by omega)]
  · by_cases hlt : j < k
    · have := (hd j hj).2 hlt j (Nat.le_refl _)
      have this : bearB X Y V lo hi j weight = true := this
      rw [this]; simpa using hlt
    · obtain rfl : j = k := by omega
      have h2 := fun e : bearB X Y V lo hi j weight = true => (hd j hj).1 (fun i hi => by
        by_cases hij : i < j
        · exact (hd i (by omega)).2 hij i (Nat.le_refl _)
        · obtain rfl : i = j := by omega
          exact e)
      cases hb : bearB X Y V lo hi j weight
      · simp
      · have := h2 hb; omega

/-- At each of the first k winds the lower end is at least the weight. -/
def soTo (X Y : List Int) (V : List (List Int)) (length lo weight : Int) (k : Nat) : Bool := (List.range k).all fun j => decide (weight ≤ flo X Y V length (lo + (j : Int)))
theorem soTo_zero (X Y : List Int) (V : List (List Int)) (length lo weight : Int) : soTo X Y V length lo weight 0 = true := rfl
theorem soTo_succ (X Y : List Int) (V : List (List Int)) (length lo weight : Int) (k : Nat) : soTo X Y V length lo weight (k + 1) = (soTo X Y V length lo weight k && decide (weight ≤ flo X Y V length (lo + (k : Int)))) := by
  simp [soTo, List.range_succ]

theorem soTo_all {cable : Int} {X Y : List Int} {V : List (List Int)} {lo hi : Int} (h : OnH cable X Y V lo hi) {n weight : Int} (h0 : 0 ≤ n) (h1 : n ≤ cable) : soTo X Y V n lo weight (hi - lo + 1).toNat = bearB X Y V lo hi n weight := by
  have hwd := h.wind
  rw [bear_low h h0 h1, Bool.eq_iff_iff, soTo, List.all_eq_true, decide_eq_true_eq]
  have hl := h.lies h0 h1
  constructor
  · intro hall
    obtain ⟨x, y, x1, x2, y1, y2, e⟩ := lowB_at h.tab hl h.lie (Int.le_refl n) hwd
    obtain rfl : x = n := by omega
    rw [e]
    have := hall (y - lo).toNat (by simp; omega)
    rw [decide_eq_true_eq, show lo + ((y - lo).toNat : Int) = y by omega] at this
    exact this
  · intro hle j hj
    simp at hj
    rw [decide_eq_true_eq]
    exact Int.le_trans hle (lowB_le h.tab hl h.lie (Int.le_refl _) (Int.le_refl _) (by omega) (by omega))

theorem at_main {cable : Int} {X Y : List Int} {V : List (List Int)} {lo hi : Int} (h : OnH cable X Y V lo hi) {n y : Int} (h0 : 0 ≤ n) (h1 : n ≤ cable) (y0 : lo ≤ y) (y1 : y ≤ hi) : ∃ u, atR X Y V n y = (flo X Y V n y, u, 0) := by
  have hl := h.lie
  simp only [liesB, Bool.and_eq_true, decide_eq_true_eq] at hl
  have hy : liesB Y y y = true := by simp only [liesB, Bool.and_eq_true, decide_eq_true_eq]; omega
  exact ⟨_, by rw [atR, if_neg (by rw [h.tab]; simp), h.lies h0 h1, hy]; rfl⟩

set_option maxRecDepth 100000 in
set_option maxHeartbeats 6400000 in
theorem law_Deep_main (vX vY vV : Value) (X Y : List Int) (V : List (List Int)) (cable charge lo hi length weight : Int) (w : World) (hR : RT w vX vY vV X Y V)
    (hE : windsE cable X Y V charge lo hi = 0) (h60 : hi - lo ≤ 60) (w0 : 1 ≤ weight) (w1 : weight ≤ 100000) (l0 : 0 ≤ length) (l1 : length ≤ cable) :
    Calls Try.prog 5 #[.agg #[.int .i64 cable, vX, vY, vV, .int .i64 charge], .agg #[.int .i64 lo, .int .i64 hi], .agg #[.int .i64 length, .int .i64 weight]] w (AllBelow (.bool true) w) := by
  have B3 := hwW_below cable vX vY vV charge lo hi length weight w
  have z3 : (hwW cable vX vY vV charge lo hi length weight w).heap.size = w.heap.size + 1 + 1 + 1 := by simp
  have hO := windsE_zero hE
  have hc := hO.cab
  have hv := hO.val
  have hwd := hO.wind
  simp only [vs, wi, Bool.and_eq_true, decide_eq_true_eq] at hv
  obtain ⟨⟨v1, v2⟩, v3⟩ := hv
  obtain ⟨c1, c2⟩ := hc
  obtain ⟨k, hk, hdeep, hbear⟩ := deep_main (charge := charge) hE w0 w1
  have HB := Lib.hid hbear
  have HE := Lib.hid hE
  have HD := Lib.hid hdeep
  have HCar := Lib.hid (fun (n : Int) (h0 : 0 ≤ n) (h1 : n ≤ cable) (W : World) (hb : Below w.heap.size w W) => car_main hE h0 h1 w0 w1 ▸ sling_Carries vX vY vV X Y V cable charge lo hi n weight W (hR.below hb))
  have HSo := Lib.hid (soTo_all hO (weight := weight) l0 l1)
  have HAt := Lib.hid (fun (y : Int) (y0 : lo ≤ y) (y1 : y ≤ hi) => at_main hO l0 l1 y0 y1)
  clear hE hdeep hbear hO
  go_enter Try.func5, Try.ntmps5
  go_wp2_with fail
  refine (ref_CheckWinds cable charge lo hi vX vY vV X Y V _ (hR.below B3)).mono ?_
  rintro e w1' ⟨rfl, hb⟩
  rw [HE.out]
  have E1 := B3.trans (hb.mono (by rw [z3]; omega))
  rw [z3] at hb
  obtain ⟨⟨q0, q1, q2, q3, q4⟩, ⟨q5, q6⟩, ⟨q7, q8⟩, q9⟩ := box522 hb
  go_wp2_with fail
  refine (HCar.out length l0 l1 _ E1).mono ?_
  rintro e w2 ⟨rfl, hb2⟩
  have E2 := E1.trans (hb2.mono E1.size)
  have G2 := hb.trans (hb2.mono (by omega))
  clear q0 q1 q2 q3 q4 q5 q6 q7 q8 hb hb2
  obtain ⟨⟨q0, q1, q2, q3, q4⟩, ⟨q5, q6⟩, ⟨q7, q8⟩, q9⟩ := box522 G2
  rw [← HSo.out]
  generalize hso : soTo X Y V length lo weight (hi - lo + 1).toNat = so at *
  have Hso := Lib.hid hso
  clear hso
  go_wp2_with fail
  go_loopw [9, 10] (fun s9 s10 wr => ∃ j : Nat, s10 = .int .i64 (lo + (j : Int)) ∧ j ≤ (hi - lo + 1).toNat ∧ s9 = .bool (soTo X Y V length lo weight j) ∧ Below (w.heap.size + 1 + 1 + 1) (hwW cable vX vY vV charge lo hi length weight w) wr) (fun _ s10 _ => (hi - intOf s10 + 1).toNat)
  case atStart => exact ⟨0, by simp, by omega, by rw [soTo_zero], G2⟩
  case round =>
    as_aux_lemma =>
    obtain ⟨j, rfl, hj, rfl, hbl⟩ := hrel
    clear q0 q1 q2 q3 q4 q5 q6 q7 q8 G2
    obtain ⟨⟨q0, q1, q2, q3, q4⟩, ⟨q5, q6⟩, ⟨q7, q8⟩, q9⟩ := box522 hbl
    have E3 := B3.trans (hbl.mono (by omega))
    by_cases hlt : lo + (j : Int) ≤ hi
    · obtain ⟨u, hu⟩ := HAt.out (lo + (j : Int)) (by omega) hlt
      have hcon := spans_At vX vY vV X Y V length (lo + (j : Int)) wr (hR.below E3)
      rw [hu] at hcon
      dsimp only at hcon
      have hs := soTo_succ X Y V length lo weight j
      generalize flo X Y V length (lo + (j : Int)) = f at *
      have HS := Lib.hid hs
      have HCon := Lib.hid hcon
      clear hs hcon hu
      generalize soTo X Y V length lo weight j = b at *
      obtain ⟨n, hn⟩ : ∃ n : Int, lo + (j : Int) = n := ⟨_, rfl⟩
      rw [hn] at hlt HCon
      rw [hn]
      have hn2 : lo ≤ n := by omega
      have Hn := Lib.hid hn
      clear hn
      by_cases hf : weight ≤ f
      · cases b
        all_goals
          go_wp2_with fail
          refine HCon.out.mono ?_
          rintro e w4 ⟨rfl, hb4⟩
          have G4 := hbl.trans (hb4.mono (by omega))
          clear q0 q1 q2 q3 q4 q5 q6 q7 q8
          obtain ⟨⟨q0, q1, q2, q3, q4⟩, ⟨q5, q6⟩, ⟨q7, q8⟩, q9⟩ := box522 G4
          have z4 : w.heap.size + 1 + 1 < w4.heap.size := by omega
          go_wp2_with fail
          go_roundw
          case rel => exact ⟨j + 1, by rw [show lo + ((j + 1 : Nat) : Int) = n + 1 by have := Hn.out; omega], by have := Hn.out; omega, by rw [HS.out]; simp [hf], G4.alloc (by omega) _⟩
          case measure => simp [intOf]; omega
      · cases b
        all_goals
          go_wp2_with fail
          refine HCon.out.mono ?_
          rintro e w4 ⟨rfl, hb4⟩
          have G4 := hbl.trans (hb4.mono (by omega))
          clear q0 q1 q2 q3 q4 q5 q6 q7 q8
          obtain ⟨⟨q0, q1, q2, q3, q4⟩, ⟨q5, q6⟩, ⟨q7, q8⟩, q9⟩ := box522 G4
          have z4 : w.heap.size + 1 + 1 < w4.heap.size := by omega
          go_wp2_with fail
          go_roundw
          case rel => exact ⟨j + 1, by rw [show lo + ((j + 1 : Nat) : Int) = n + 1 by have := Hn.out; omega], by have := Hn.out; omega, by rw [HS.out]; simp [hf], G4.alloc (by omega) _⟩
          case measure => simp [intOf]; omega
    · obtain rfl : j = (hi - lo + 1).toNat := by omega
      rw [Hso.out]
      go_wp2_with fail
      refine (sling_Deepest vX vY vV X Y V cable charge lo hi weight _ (hR.below E3)).mono ?_
      rintro e w4 ⟨rfl, hb4⟩
      rw [HD.out]
      have E4 := E3.trans (hb4.mono E3.size)
      have G4 := hbl.trans (hb4.mono (by omega))
      clear q0 q1 q2 q3 q4 q5 q6 q7 q8 hb4
      obtain ⟨⟨q0, q1, q2, q3, q4⟩, ⟨q5, q6⟩, ⟨q7, q8⟩, q9⟩ := box522 G4
      by_cases hk0 : k = 0
      · subst hk0
        rw [if_pos rfl]
        go_wp2_with fail
        go_loopw [14] (fun s14 wr => (s14 = .int .i64 0 ∨ s14 = .int .i64 1) ∧ Below (w.heap.size + 1 + 1 + 1) (hwW cable vX vY vV charge lo hi length weight w) wr) (fun s14 _ => 1 - (intOf s14).toNat)
        case atStart => exact ⟨Or.inl rfl, G4⟩
        case round =>
          as_aux_lemma =>
          obtain ⟨hii, hbl⟩ := hrel
          clear q0 q1 q2 q3 q4 q5 q6 q7 q8 G4
          obtain ⟨⟨q0, q1, q2, q3, q4⟩, ⟨q5, q6⟩, ⟨q7, q8⟩, q9⟩ := box522 hbl
          have E5 := B3.trans (hbl.mono (by omega))
          have c0 : (0 : Int) ≤ cable := by omega
          have HB0 := Lib.hid (show bearB X Y V lo hi 0 weight = false from HB.out 0 (by omega) (by omega))
          rcases hii with rfl | rfl
          · go_wp2_with fail
            refine (HCar.out 0 (by omega) c0 _ E5).mono ?_
            rintro e w6 ⟨rfl, hb6⟩
            rw [HB0.out]
            have G6 := hbl.trans (hb6.mono (by omega))
            go_wp2_with fail
            go_roundw
            case rel => exact ⟨Or.inr rfl, G6⟩
            case measure => simp [intOf]
          · go_wp2_with fail
            refine (law_works _).mono ?_
            rintro e w7 ⟨rfl, hb7⟩
            go_wp2
            go_ret
            exact ⟨rfl, E5.trans (hb7.mono E5.size)⟩
      · rw [if_neg hk0]
        have k1 : (0 : Int) ≤ (k : Int) - 1 := by omega
        have k2 : (k : Int) - 1 ≤ cable := by omega
        clear hk0
        go_wp2_with fail
        go_loopw [14] (fun s14 wr => ∃ i : Nat, s14 = .int .i64 i ∧ i ≤ k + 1 ∧ Below (w.heap.size + 1 + 1 + 1) (hwW cable vX vY vV charge lo hi length weight w) wr) (fun s14 _ => k + 1 - (intOf s14).toNat)
        case atStart => exact ⟨0, rfl, by omega, G4⟩
        case round =>
          as_aux_lemma =>
          obtain ⟨i, rfl, hi, hbl⟩ := hrel
          clear q0 q1 q2 q3 q4 q5 q6 q7 q8 G4
          obtain ⟨⟨q0, q1, q2, q3, q4⟩, ⟨q5, q6⟩, ⟨q7, q8⟩, q9⟩ := box522 hbl
          have E5 := B3.trans (hbl.mono (by omega))
          by_cases h1 : i ≤ k
          · by_cases h2 : (i : Int) ≤ cable
            · have HBi := Lib.hid (HB.out i (by omega) h1)
              go_wp2_with fail
              refine (HCar.out (i : Int) (by omega) h2 _ E5).mono ?_
              rintro e w6 ⟨rfl, hb6⟩
              rw [HBi.out]
              have G6 := hbl.trans (hb6.mono (by omega))
              by_cases h3 : i < k
              · rw [show decide (i < k) = true by simpa using h3]
                have h3' : (i : Int) ≤ (k : Int) - 1 := by omega
                go_wp2_with fail
                go_roundw
                case rel => exact ⟨i + 1, by go_num, by omega, G6⟩
                case measure => simp [intOf]; omega
              · rw [show decide (i < k) = false by simpa using h3]
                have h3' : ¬ (i : Int) ≤ (k : Int) - 1 := by omega
                go_wp2_with fail
                go_roundw
                case rel => exact ⟨i + 1, by go_num, by omega, G6⟩
                case measure => simp [intOf]; omega
            · go_wp2_with fail
              refine (law_works _).mono ?_
              rintro e w7 ⟨rfl, hb7⟩
              go_wp2
              go_ret
              exact ⟨rfl, E5.trans (hb7.mono E5.size)⟩
          · have h1' : ¬ (i : Int) ≤ (k : Int) := by omega
            go_wp2_with fail
            refine (law_works _).mono ?_
            rintro e w7 ⟨rfl, hb7⟩
            go_wp2
            go_ret
            exact ⟨rfl, E5.trans (hb7.mono E5.size)⟩

set_option maxRecDepth 100000 in
set_option maxHeartbeats 6400000 in
theorem law_Deep (vX vY vV : Value) (X Y : List Int) (V : List (List Int)) (cable charge lo hi length weight : Int) (w : World) (hR : RT w vX vY vV X Y V) :
    Calls Try.prog 5 #[.agg #[.int .i64 cable, vX, vY, vV, .int .i64 charge], .agg #[.int .i64 lo, .int .i64 hi], .agg #[.int .i64 length, .int .i64 weight]] w (AllBelow (.bool true) w) := by
  have B3 := hwW_below cable vX vY vV charge lo hi length weight w
  have z3 : (hwW cable vX vY vV charge lo hi length weight w).heap.size = w.heap.size + 1 + 1 + 1 := by simp
  by_cases hE : windsE cable X Y V charge lo hi = 0
  · have hv := (windsE_zero hE).val
    have hwd := (windsE_zero hE).wind
    simp only [vs, wi, Bool.and_eq_true, decide_eq_true_eq] at hv
    obtain ⟨⟨v1, v2⟩, v3⟩ := hv
    have HE := Lib.hid hE
    clear hE
    by_cases a1 : hi - lo ≤ 60
    · by_cases a2 : 1 ≤ weight
      · by_cases a3 : weight ≤ 100000
        · by_cases a4 : 0 ≤ length
          · by_cases a5 : length ≤ cable
            · exact law_Deep_main vX vY vV X Y V cable charge lo hi length weight w hR HE.out a1 a2 a3 a4 a5
            · go_enter Try.func5, Try.ntmps5
              go_wp2_with fail
              refine (ref_CheckWinds cable charge lo hi vX vY vV X Y V _ (hR.below B3)).mono ?_
              rintro e w1' ⟨rfl, hb⟩
              rw [HE.out]
              have E1 := B3.trans (hb.mono (by rw [z3]; omega))
              rw [z3] at hb
              obtain ⟨⟨q0, q1, q2, q3, q4⟩, ⟨q5, q6⟩, ⟨q7, q8⟩, q9⟩ := box522 hb
              clear hb
              go_wp2_with fail
              refine (law_works _).mono ?_
              rintro e w7 ⟨rfl, hb7⟩
              go_wp2
              go_ret
              exact ⟨rfl, E1.trans (hb7.mono E1.size)⟩
          · go_enter Try.func5, Try.ntmps5
            go_wp2_with fail
            refine (ref_CheckWinds cable charge lo hi vX vY vV X Y V _ (hR.below B3)).mono ?_
            rintro e w1' ⟨rfl, hb⟩
            rw [HE.out]
            have E1 := B3.trans (hb.mono (by rw [z3]; omega))
            rw [z3] at hb
            obtain ⟨⟨q0, q1, q2, q3, q4⟩, ⟨q5, q6⟩, ⟨q7, q8⟩, q9⟩ := box522 hb
            clear hb
            go_wp2_with fail
            refine (law_works _).mono ?_
            rintro e w7 ⟨rfl, hb7⟩
            go_wp2
            go_ret
            exact ⟨rfl, E1.trans (hb7.mono E1.size)⟩
        · go_enter Try.func5, Try.ntmps5
          go_wp2_with fail
          refine (ref_CheckWinds cable charge lo hi vX vY vV X Y V _ (hR.below B3)).mono ?_
          rintro e w1' ⟨rfl, hb⟩
          rw [HE.out]
          have E1 := B3.trans (hb.mono (by rw [z3]; omega))
          rw [z3] at hb
          obtain ⟨⟨q0, q1, q2, q3, q4⟩, ⟨q5, q6⟩, ⟨q7, q8⟩, q9⟩ := box522 hb
          clear hb
          go_wp2_with fail
          refine (law_works _).mono ?_
          rintro e w7 ⟨rfl, hb7⟩
          go_wp2
          go_ret
          exact ⟨rfl, E1.trans (hb7.mono E1.size)⟩
      · go_enter Try.func5, Try.ntmps5
        go_wp2_with fail
        refine (ref_CheckWinds cable charge lo hi vX vY vV X Y V _ (hR.below B3)).mono ?_
        rintro e w1' ⟨rfl, hb⟩
        rw [HE.out]
        have E1 := B3.trans (hb.mono (by rw [z3]; omega))
        rw [z3] at hb
        obtain ⟨⟨q0, q1, q2, q3, q4⟩, ⟨q5, q6⟩, ⟨q7, q8⟩, q9⟩ := box522 hb
        clear hb
        go_wp2_with fail
        refine (law_works _).mono ?_
        rintro e w7 ⟨rfl, hb7⟩
        go_wp2
        go_ret
        exact ⟨rfl, E1.trans (hb7.mono E1.size)⟩
    · go_enter Try.func5, Try.ntmps5
      go_wp2_with fail
      refine (ref_CheckWinds cable charge lo hi vX vY vV X Y V _ (hR.below B3)).mono ?_
      rintro e w1' ⟨rfl, hb⟩
      rw [HE.out]
      have E1 := B3.trans (hb.mono (by rw [z3]; omega))
      rw [z3] at hb
      obtain ⟨⟨q0, q1, q2, q3, q4⟩, ⟨q5, q6⟩, ⟨q7, q8⟩, q9⟩ := box522 hb
      clear hb
      go_wp2_with fail
      refine (law_works _).mono ?_
      rintro e w7 ⟨rfl, hb7⟩
      go_wp2
      go_ret
      exact ⟨rfl, E1.trans (hb7.mono E1.size)⟩
  · have hEb : (windsE cable X Y V charge lo hi != 0) = true := by simpa using hE
    clear hE
    go_enter Try.func5, Try.ntmps5
    go_wp2_with fail
    refine (ref_CheckWinds cable charge lo hi vX vY vV X Y V _ (hR.below B3)).mono ?_
    rintro e w1' ⟨rfl, hb⟩
    have E1 := B3.trans (hb.mono (by rw [z3]; omega))
    rw [z3] at hb
    obtain ⟨⟨q0, q1, q2, q3, q4⟩, ⟨q5, q6⟩, ⟨q7, q8⟩, q9⟩ := box522 hb
    clear hb
    go_wp2_with fail
    refine (law_works _).mono ?_
    rintro e w7 ⟨rfl, hb7⟩
    go_wp2
    go_ret
    exact ⟨rfl, E1.trans (hb7.mono E1.size)⟩

end Go.Proofs.Ytliddinpfgpnfaa
