/- Contracts of the specification's tests of sets of starts and gusts. -/
import Derived.Test.YtliddinpfgpnfaaA33
import Derived.Test.YtliddinpfgpnfaaA10
namespace Go.Proofs.Ytliddinpfgpnfaa
open Go Go.RowKit Go.Sort
set_option linter.unusedSimpArgs false
set_option linter.unusedVariables false

def inB1 (p : Int × Int) (m : Int) : Bool := decide (-m ≤ p.1) && decide (p.2 ≤ m)

set_option maxHeartbeats 400000 in
theorem inside_is {lo hi m : Int} {r : Bool} (w : World) (hm : 0 ≤ m ∧ m ≤ 1000) (h : inB1 (lo, hi) m = r) :
    Calls Try.prog 93 #[.agg #[.int .i64 lo, .int .i64 hi], .int .i64 m] w (AllBelow (.bool r) w) := by
  subst h
  obtain ⟨m0, m1⟩ := hm
  have i1 : IntKind.i64.wrap (-m) = -m := IntWalk.i64_in _ (by omega)
  cases h1 : decide (-m ≤ lo)
  all_goals
    have H1 := Lib.hid h1
    go_enter Try.func93, Try.ntmps93
    go_wp2
    go_ret
    exact ⟨ret_bool (by simp [inB1, H1.out]), (Below.refl _ _).alloc (Nat.le_refl _) _⟩

theorem RP.open2 {w : World} {v : Value} {l0 h0 l1 h1 : Int} (h : RP w v [(l0, h0), (l1, h1)]) :
    ∃ b o c, v = .slice (some ⟨b, o, none⟩) 2 c ∧ 2 ≤ c ∧ b < w.heap.size ∧ w.cell? ⟨b, o, none⟩ = some (.int .i64 l0) ∧ w.cell? ⟨b, o + 1, none⟩ = some (.int .i64 h0) ∧ w.cell? ⟨b, o + 2, none⟩ = some (.int .i64 l1) ∧ w.cell? ⟨b, o + 3, none⟩ = some (.int .i64 h1) := by
  obtain ⟨b, o, c, e, k1, k2, k3⟩ := RS.open h (by simp)
  exact ⟨b, o, c, e, k1, k2, k3 0 _ rfl, k3 1 _ rfl, k3 2 _ rfl, k3 3 _ rfl⟩

def numB (bs : List (Int × Int)) (g : Int × Int) (n : Int) : Bool :=
  match bs with
  | [p, q] => inB1 p 1000 && inB1 q 1000 && inB1 g 100 && wi n 0 16
  | _ => false

def numE (bs : List (Int × Int)) (g : Int × Int) (n : Int) : Int := if numB bs g n then 0 else 1

theorem numB_no {bs : List (Int × Int)} (h : bs.length ≠ 2) (g : Int × Int) (n : Int) : numB bs g n = false := by
  unfold numB
  split
  · exact absurd rfl h
  · rfl

theorem refW_is {n lo hi : Int} {r : Bool} (w : World) (h : wi n lo hi = r) : Calls Try.prog 48 #[.int .i64 n, .int .i64 lo, .int .i64 hi] w fun e w' => e = .returned (.bool r) ∧ w = w' := by
  subst h
  by_cases h : lo ≤ n
  all_goals
    go_enter Try.func48, Try.ntmps48
    go_wp2
    go_ret
    simp [wi]
    try omega

set_option maxRecDepth 100000 in
set_option maxHeartbeats 1600000 in
theorem ref_checkNumbers (vb : Value) (bs : List (Int × Int)) (gl gh n : Int) (w : World) (hR : RP w vb bs) (hl : bs.length ≤ 1000000000000000000) :
    Calls Try.prog 67 #[vb, .agg #[.int .i64 gl, .int .i64 gh], .int .i64 n] w (AllBelow (.int .i64 (numE bs (gl, gh) n)) w) := by
  have B1 : Below w.heap.size w (w.alloc (.cells #[.int .i64 gl, .int .i64 gh] 27)) := (Below.refl _ _).alloc (Nat.le_refl _) _
  by_cases hlen : bs.length = 2
  · obtain ⟨⟨l0, h0⟩, ⟨l1, h1⟩, rfl⟩ : ∃ p q, bs = [p, q] := by
      match bs, hlen with
      | [p, q], _ => exact ⟨p, q, rfl⟩
    obtain ⟨b, o, c, rfl, hc, hb, q0, q1, q2, q3⟩ := hR.open2
    have HN := Lib.hid (show numE [(l0, h0), (l1, h1)] (gl, gh) n = if (inB1 (l0, h0) 1000 && inB1 (l1, h1) 1000 && inB1 (gl, gh) 100 && wi n 0 16) then 0 else 1 from rfl)
    clear hlen
    cases k1 : inB1 (l0, h0) 1000
    · have K := Lib.hid k1
      go_enter Try.func67, Try.ntmps67
      go_wp2_with (go_at_call 93; (with_reducible refine (inside_is _ (by omega) k1).mono ?_); rintro e w1 ⟨rfl, hb1⟩; have E1 := B1.trans (hb1.mono B1.size); obtain ⟨hc1, hf1, hs1⟩ := bcell hb1; have u1 : w.heap.size < w1.heap.size := (by simp at hs1; omega))
      go_ret
      exact ⟨ret_int (by rw [HN.out, K.out]; rfl), E1⟩
    · cases k2 : inB1 (l1, h1) 1000
      · have K := Lib.hid (And.intro k1 k2)
        go_enter Try.func67, Try.ntmps67
        go_wp2_with (first
          | (go_at_call 93; (with_reducible refine (inside_is _ (by omega) k1).mono ?_); rintro e w1 ⟨rfl, hb1⟩; have E1 := B1.trans (hb1.mono B1.size); obtain ⟨hc1, hf1, hs1⟩ := bcell hb1; have u1 : w.heap.size < w1.heap.size := (by simp at hs1; omega))
          | (go_at_call 93; (with_reducible refine (inside_is _ (by omega) k2).mono ?_); rintro e w2 ⟨rfl, hb2⟩; have E2 := E1.trans (hb2.mono E1.size); obtain ⟨hc2, hf2, hs2⟩ := bcell hb2))
        go_ret
        exact ⟨ret_int (by rw [HN.out, K.out.1, K.out.2]; rfl), E2⟩
      · cases k3 : inB1 (gl, gh) 100
        · have K := Lib.hid (And.intro k1 (And.intro k2 k3))
          go_enter Try.func67, Try.ntmps67
          go_wp2_with (first
            | (go_at_call 93; (with_reducible refine (inside_is _ (by omega) k1).mono ?_); rintro e w1 ⟨rfl, hb1⟩; have E1 := B1.trans (hb1.mono B1.size); obtain ⟨hc1, hf1, hs1⟩ := bcell hb1; have u1 : w.heap.size < w1.heap.size := (by simp at hs1; omega))
            | (go_at_call 93; (with_reducible refine (inside_is _ (by omega) k2).mono ?_); rintro e w2 ⟨rfl, hb2⟩; have E2 := E1.trans (hb2.mono E1.size); obtain ⟨hc2, hf2, hs2⟩ := bcell hb2)
            | (go_at_call 93; (with_reducible refine (inside_is _ (by omega) k3).mono ?_); rintro e w3 ⟨rfl, hb3⟩; have E3 := E2.trans (hb3.mono E2.size)))
          go_ret
          exact ⟨ret_int (by rw [HN.out, K.out.1, K.out.2.1, K.out.2.2]; rfl), E3⟩
        · cases k4 : wi n 0 16
          all_goals
            have K := Lib.hid (And.intro k1 (And.intro k2 (And.intro k3 k4)))
            go_enter Try.func67, Try.ntmps67
            go_wp2_with (first
              | (go_at_call 93; (with_reducible refine (inside_is _ (by omega) k1).mono ?_); rintro e w1 ⟨rfl, hb1⟩; have E1 := B1.trans (hb1.mono B1.size); obtain ⟨hc1, hf1, hs1⟩ := bcell hb1; have u1 : w.heap.size < w1.heap.size := (by simp at hs1; omega))
              | (go_at_call 93; (with_reducible refine (inside_is _ (by omega) k2).mono ?_); rintro e w2 ⟨rfl, hb2⟩; have E2 := E1.trans (hb2.mono E1.size); obtain ⟨hc2, hf2, hs2⟩ := bcell hb2)
              | (go_at_call 93; (with_reducible refine (inside_is _ (by omega) k3).mono ?_); rintro e w3 ⟨rfl, hb3⟩; have E3 := E2.trans (hb3.mono E2.size))
              | (go_at_call 48; (with_reducible refine (refW_is _ k4).mono ?_); rintro e w4 ⟨rfl, rfl⟩))
            go_ret
            exact ⟨ret_int (by rw [HN.out, K.out.1, K.out.2.1, K.out.2.2.1, K.out.2.2.2]; rfl), E3⟩
  · have HN := Lib.hid (show numE bs (gl, gh) n = 1 by rw [numE, numB_no hlen]; simp)
    obtain ⟨A, c, rfl, hc⟩ := hR.form
    have e1 : ((bs.length : Int) != 2) = true := by simpa using (show ¬ (bs.length : Int) = 2 by omega)
    clear hlen
    go_enter Try.func67, Try.ntmps67
    go_wp2
    go_ret
    exact ⟨ret_int (by rw [HN.out]), B1⟩

theorem valid_is {lo hi : Int} {r : Bool} (w : World) (h : vs lo hi = r) : Calls Try.prog 53 #[.agg #[.int .i64 lo, .int .i64 hi]] w (AllBelow (.bool r) w) := by
  subst h; exact ref_Valid lo hi w

set_option maxRecDepth 100000 in
set_option maxHeartbeats 1600000 in
theorem ref_Check1 (vb : Value) (bs : List (Int × Int)) (w : World) (hR : RP w vb bs) (hl : bs.length ≤ 1000000000000000000) :
    Calls Try.prog 66 #[vb] w (AllBelow (.int .i64 (boxE bs)) w) := by
  obtain ⟨A, c, rfl, hc⟩ := hR.form
  have HB := Lib.hid (show boxE bs = if wi bs.length 1 3 then (if bs.any badS then 10 else 0) else 10 from rfl)
  cases h : wi bs.length 1 3
  · go_enter Try.func66, Try.ntmps66
    go_wp2_with (go_at_call 81; refine (ref_From _ _ _ _).mono ?_; rintro e w' ⟨rfl, rfl⟩)
    go_ret
    exact ⟨ret_int (by rw [HB.out, h]; rfl), Below.refl _ _⟩
  · go_enter Try.func66, Try.ntmps66
    go_wp2_with (go_at_call 81; refine (ref_From _ _ _ _).mono ?_; rintro e w' ⟨rfl, rfl⟩)
    go_loopw [3] (fun s3 wr => ∃ k : Nat, s3 = .int .i64 k ∧ k ≤ bs.length ∧ noneTo badS bs k ∧ Below w.heap.size w wr) (fun s3 _ => bs.length - (intOf s3).toNat)
    case atStart => exact ⟨0, rfl, by omega, noneTo_zero _ _, Below.refl _ _⟩
    case round =>
      obtain ⟨k, rfl, hk, hno, hbl⟩ := hrel
      by_cases hlt : k < bs.length
      · obtain ⟨b, o, c', x, y, e, hb, hx, q0, q1⟩ := (hR.below hbl).at hlt
        cases e
        have Hx := Lib.hid hx
        clear hx
        have i1 : (k : Int) < (bs.length : Int) := by omega
        have i2 : (0 : Int) ≤ (k : Int) := by omega
        cases hv : vs x y
        · go_wp2_with fail
          refine (valid_is _ hv).mono ?_
          rintro e w1 ⟨rfl, hb1⟩
          have E1 := hbl.trans (hb1.mono hbl.size)
          go_wp2
          go_ret
          exact ⟨ret_int (by rw [HB.out, h, if_pos rfl, if_pos]; exact List.any_eq_true.2 ⟨_, List.mem_of_getElem? Hx.out, by simp [badS, hv]⟩), E1⟩
        · go_wp2_with fail
          refine (valid_is _ hv).mono ?_
          rintro e w1 ⟨rfl, hb1⟩
          have E1 := hbl.trans (hb1.mono hbl.size)
          go_wp2
          go_roundw
          case rel => exact ⟨k + 1, by go_num, by omega, noneTo_succ hno Hx.out (by simp [badS, hv]), E1⟩
          case measure => simp [intOf]; omega
      · go_wp2
        go_ret
        refine ⟨ret_int ?_, hbl⟩
        rw [HB.out, h, if_pos rfl, if_neg]
        simp only [List.any_eq_true, not_exists, not_and, Bool.not_eq_true]
        intro x hx
        obtain ⟨j, hj, rfl⟩ := List.getElem_of_mem hx
        exact hno j _ (by omega) (by simp)

theorem slingV_or (a b c : Int) : slingV a b c = 0 ∨ slingV a b c = 70 := by unfold slingV; split <;> simp

/-- The error of a sling, sets and ticks. -/
def setsE (num damp D : Int) (bs : List (Int × Int)) (g : Int × Int) (n : Int) (lims : List (Int × Int)) : Int :=
  if slingV num damp D = 0 then if boxE bs = 0 ∧ vs g.1 g.2 = true ∧ lims.any badS = false then numE bs g n else 10 else 70


set_option maxRecDepth 100000 in
set_option maxHeartbeats 1600000 in
theorem ref_CheckSets (num damp D : Int) (vb : Value) (bs : List (Int × Int)) (gl gh n : Int) (w : World) (hR : RP w vb bs) (hl : bs.length ≤ 1000000000000000000) :
    Calls Try.prog 29 #[.agg #[.int .i64 num, .int .i64 damp, .int .i64 D], vb, .agg #[.int .i64 gl, .int .i64 gh], .int .i64 n] w (AllBelow (.int .i64 (setsE num damp D bs (gl, gh) n [])) w) := by
  have B2 : Below w.heap.size w ((w.alloc (.cells #[.int .i64 num, .int .i64 damp, .int .i64 D] 23)).alloc (.cells #[.int .i64 gl, .int .i64 gh] 27)) := ((Below.refl _ _).alloc (Nat.le_refl _) _).alloc (by simp) _
  have HN := Lib.hid (show setsE num damp D bs (gl, gh) n [] = if slingV num damp D = 0 then if boxE bs = 0 ∧ vs gl gh = true ∧ ([] : List (Int × Int)).any badS = false then numE bs (gl, gh) n else 10 else 70 from rfl)
  obtain ⟨A, c, rfl, hc⟩ := hR.form
  have HC := fun W => ref_Check num damp D W
  have HB := fun (W : World) (hb : Below w.heap.size w W) => ref_Check1 _ bs W (hR.below hb) hl
  have HM := fun (W : World) (hb : Below w.heap.size w W) => ref_checkNumbers _ bs gl gh n W (hR.below hb) hl
  rcases slingV_or num damp D with k1 | k1
  · rcases boxE_or bs with k2 | k2
    · rw [k1] at HC
      rw [k2] at HB
      cases k3 : vs gl gh
      all_goals
        have K := Lib.hid (And.intro k1 (And.intro k2 k3))
        clear k1 k2
        go_enter Try.func29, Try.ntmps29
        go_wp2_with (first
          | (go_at_call 15; (with_reducible refine (HC _).mono ?_); rintro e w1 ⟨rfl, hb1⟩; have E1 := B2.trans (hb1.mono B2.size); obtain ⟨hc1, hf1, hs1⟩ := bcell hb1; have u1 : w.heap.size + 1 < w1.heap.size := (by simp at hs1; omega))
          | (go_at_call 66; (with_reducible refine (HB _ E1).mono ?_); rintro e w2 ⟨rfl, hb2⟩; have E2 := E1.trans (hb2.mono E1.size); obtain ⟨hc2, hf2, hs2⟩ := bcell hb2; have u2 : w.heap.size + 1 < w2.heap.size := (by omega))
          | (go_at_call 53; (with_reducible refine (valid_is _ k3).mono ?_); rintro e w3 ⟨rfl, hb3⟩; have E3 := E2.trans (hb3.mono E2.size); obtain ⟨hc3, hf3, hs3⟩ := bcell hb3)
          | (go_at_call 67; (with_reducible refine (HM _ E3).mono ?_); rintro e w4 ⟨rfl, hb4⟩; have E4 := E3.trans (hb4.mono E3.size)))
        go_ret
      · exact ⟨ret_int (by rw [HN.out, K.out.1, K.out.2.1, K.out.2.2]; simp), E3⟩
      · exact ⟨ret_int (by rw [HN.out, K.out.1, K.out.2.1, K.out.2.2]; simp), E4⟩
    · rw [k1] at HC
      rw [k2] at HB
      have K := Lib.hid (And.intro k1 k2)
      clear k1 k2
      go_enter Try.func29, Try.ntmps29
      go_wp2_with (first
        | (go_at_call 15; (with_reducible refine (HC _).mono ?_); rintro e w1 ⟨rfl, hb1⟩; have E1 := B2.trans (hb1.mono B2.size); obtain ⟨hc1, hf1, hs1⟩ := bcell hb1; have u1 : w.heap.size + 1 < w1.heap.size := (by simp at hs1; omega))
        | (go_at_call 66; (with_reducible refine (HB _ E1).mono ?_); rintro e w2 ⟨rfl, hb2⟩; have E2 := E1.trans (hb2.mono E1.size); obtain ⟨hc2, hf2, hs2⟩ := bcell hb2; have u2 : w.heap.size + 1 < w2.heap.size := (by omega)))
      go_ret
      exact ⟨ret_int (by rw [HN.out, K.out.1, K.out.2]; simp), E2⟩
  · rw [k1] at HC
    have K := Lib.hid k1
    clear k1
    go_enter Try.func29, Try.ntmps29
    go_wp2_with (go_at_call 15; (with_reducible refine (HC _).mono ?_); rintro e w1 ⟨rfl, hb1⟩; have E1 := B2.trans (hb1.mono B2.size))
    go_ret
    exact ⟨ret_int (by rw [HN.out, K.out]; simp), E1⟩

end Go.Proofs.Ytliddinpfgpnfaa
