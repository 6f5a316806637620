/- Contracts of the specification's keeps, Keeps and Gust. -/
import Derived.Test.YtliddinpfgpnfaaRF
import Derived.Test.YtliddinpfgpnfaaA39
import Derived.OwnWalk
namespace Go.Proofs.Ytliddinpfgpnfaa
open Go Go.RowKit Go.Sort
set_option linter.unusedSimpArgs false
set_option linter.unusedVariables false

def kI (p : Nat → Bool) (n : Nat) : Int := match kF p n with | some t => t | none => -1
theorem kI_some {p : Nat → Bool} {n t : Nat} (h : kF p n = some t) : kI p n = t := by simp [kI, h]
theorem kI_none {p : Nat → Bool} {n : Nat} (h : kF p n = none) : kI p n = -1 := by simp [kI, h]
theorem kI_T (p : Nat → Bool) (n : Nat) : -1 ≤ kI p n ∧ max (kI p n) 0 = kT p n ∧ decide (kI p n < 0) = !kB p n := by
  cases h : kF p n with
  | none => rw [kI_none h, (kT_none h).1, (kT_none h).2]; decide
  | some t => rw [kI_some h, (kT_some h).1, (kT_some h).2]; simp

theorem two_cellsR {w : World} {b : Nat} {u v : Value} {T : TypeId} (h : w.heap[b]? = some (.cells #[u, v] T (0, 0))) : w.cell? ⟨b, 0, none⟩ = some u ∧ w.cell? ⟨b, 1, none⟩ = some v ∧ w.frozen? ⟨b, 0, none⟩ = false ∧ w.frozen? ⟨b, 1, none⟩ = false :=
  ⟨(blk_cells h 0).1, (blk_cells h 1).1, (blk_cells h 0).2, (blk_cells h 1).2⟩

abbrev k3W (num damp D gl gh ll lh : Int) (w : World) : World := (nsW num damp D gl gh w).alloc (.cells #[.int .i64 ll, .int .i64 lh] 27)

theorem k3W_below (num damp D gl gh ll lh : Int) (w : World) : Below w.heap.size w (k3W num damp D gl gh ll lh w) := (nsW_below num damp D gl gh w).alloc (by simp; omega) _

theorem k3W_cells {num damp D gl gh ll lh : Int} {w wr : World} (h : Below (w.heap.size + 1 + 1 + 1) (k3W num damp D gl gh ll lh w) wr) :
    (wr.cell? ⟨w.heap.size, 0, none⟩ = some (.int .i64 num) ∧ wr.cell? ⟨w.heap.size, 1, none⟩ = some (.int .i64 damp) ∧ wr.cell? ⟨w.heap.size, 2, none⟩ = some (.int .i64 D)) ∧
    (wr.cell? ⟨w.heap.size + 1, 0, none⟩ = some (.int .i64 gl) ∧ wr.cell? ⟨w.heap.size + 1, 1, none⟩ = some (.int .i64 gh)) ∧
    (wr.cell? ⟨w.heap.size + 1 + 1, 0, none⟩ = some (.int .i64 ll) ∧ wr.cell? ⟨w.heap.size + 1 + 1, 1, none⟩ = some (.int .i64 lh)) ∧ w.heap.size < wr.heap.size ∧ w.heap.size + 1 < wr.heap.size ∧ w.heap.size + 1 + 1 < wr.heap.size := by
  have h0 : Below (w.heap.size + 1 + 1) (nsW num damp D gl gh w) wr := ((Below.refl _ _).alloc (by simp) _).trans (h.mono (by omega))
  obtain ⟨a, b, c⟩ := nsW_cells h0
  have e1 : (k3W num damp D gl gh ll lh w).heap[w.heap.size + 1 + 1]? = some (.cells #[.int .i64 ll, .int .i64 lh] 27 (0, 0)) := by
    have := heap_alloc_new (nsW num damp D gl gh w) (.cells #[.int .i64 ll, .int .i64 lh] 27)
    rwa [show (nsW num damp D gl gh w).heap.size = w.heap.size + 1 + 1 by simp] at this
  have h1 := (h.block (w.heap.size + 1 + 1) (by omega)).trans e1
  obtain ⟨x, y, _, _⟩ := two_cellsR h1
  have := hp_lt h1
  exact ⟨a, b, ⟨x, y⟩, by omega, by omega, by omega⟩

set_option maxRecDepth 100000 in
set_option maxHeartbeats 6400000 in
theorem ref_keeps (num damp D gl gh l0 h0 l1 h1 ll lh : Int) (vb : Value) (n : Nat) (w : World) (hR : RP w vb [(l0, h0), (l1, h1)]) (hok : ok3 num damp D) (hn : n ≤ 16)
    (hS : SmallS (l0, h0) (l1, h1) (gl, gh)) (hll : (ll.natAbs : Int) ≤ 1000000) (hlh : (lh.natAbs : Int) ≤ 1000000) :
    Calls Try.prog 77 #[.agg #[.int .i64 num, .int .i64 damp, .int .i64 D], vb, .agg #[.int .i64 gl, .int .i64 gh], .int .i64 n, .agg #[.int .i64 ll, .int .i64 lh]] w (AllBelow (.int .i64 (kI (outB num damp D (l0, h0) (l1, h1) (gl, gh) ll lh) n)) w) := by
  have B3 := k3W_below num damp D gl gh ll lh w
  have bx := fun (W : World) (hb : Below (w.heap.size + 1 + 1 + 1) (k3W num damp D gl gh ll lh w) W) => k3W_cells hb
  have z3 : (k3W num damp D gl gh ll lh w).heap.size ≤ w.heap.size + 1 + 1 + 1 := by simp
  have z4 : w.heap.size + 1 + 1 + 1 ≤ (k3W num damp D gl gh ll lh w).heap.size := by simp
  go_enter Try.func77, Try.ntmps77
  go_wp2_with fail
  change Code.wp _ _ _ _ (k3W num damp D gl gh ll lh w)
  generalize k3W num damp D gl gh ll lh w = W3 at *
  go_loopw [11] (fun s11 wr => ∃ k : Nat, s11 = .int .i64 k ∧ k ≤ n + 1 ∧ (∀ j, j < k → outB num damp D (l0, h0) (l1, h1) (gl, gh) ll lh j = false) ∧ Below (w.heap.size + 1 + 1 + 1) W3 wr) (fun s11 _ => n + 1 - (intOf s11).toNat)
  case atStart => exact ⟨0, rfl, by omega, fun j hj => by omega, Below.refl _ _⟩
  case round =>
    obtain ⟨k, rfl, hk, hno, hbl⟩ := hrel
    have Hno := Lib.hid hno
    clear hno
    have ER := B3.trans (hbl.mono (by omega))
    by_cases hkn : k < n + 1
    · have i1 : (k : Int) ≤ (n : Int) := by omega
      have i2 : (0 : Int) ≤ (k : Int) := by omega
      have t1 := lim_abs hok hll (n := k) (by omega)
      have t2 := lim_abs hok hlh (n := k) (by omega)
      have HC0 := fun (W : World) (hW : Below w.heap.size w W) => ref_ends num damp D gl gh l0 h0 l1 h1 vb k false W (hR.below hW) hok (by omega) hS
      have HC1 := fun (W : World) (hW : Below w.heap.size w W) => ref_ends num damp D gl gh l0 h0 l1 h1 vb k true W (hR.below hW) hok (by omega) hS
      have HP := fun W => ref_power D k W hok.1 hok.2.1 (by omega)
      have HO := Lib.hid (show outB num damp D (l0, h0) (l1, h1) (gl, gh) ll lh k = (decide (mostN num damp D (l0, h0) (l1, h1) (gl, gh) k false < ll * D ^ k) || decide (lh * D ^ k < mostN num damp D (l0, h0) (l1, h1) (gl, gh) k true)) from rfl)
      generalize mostN num damp D (l0, h0) (l1, h1) (gl, gh) k false = M0 at HC0 HO
      generalize mostN num damp D (l0, h0) (l1, h1) (gl, gh) k true = M1 at HC1 HO
      generalize D ^ k = d at t1 t2 HP HO
      have t3 : IntKind.i64.wrap (ll * d) = ll * d := IntWalk.i64_in _ (by omega)
      have t4 : IntKind.i64.wrap (lh * d) = lh * d := IntWalk.i64_in _ (by omega)
      clear t1 t2
      obtain ⟨⟨q0, q1, q2⟩, ⟨q3, q4⟩, ⟨q5, q6⟩, u0, u1, u2⟩ := bx _ hbl
      cases k1 : decide (M0 < ll * d)
      · cases k2 : decide (lh * d < M1)
        · have HK := Lib.hid (show outB num damp D (l0, h0) (l1, h1) (gl, gh) ll lh k = false by rw [HO.out, k1, k2]; rfl)
          go_wp2_with (first
            | (go_at_call 95; (with_reducible refine (HC0 _ ER).mono ?_); rintro e w2 ⟨v2, rfl, hb2⟩; have G2 := hbl.trans (hb2.mono (by have := hbl.size; omega)); have E2 := ER.trans (hb2.mono ER.size); clear q0 q1 q2 q3 q4 q5 q6 u0 u1 u2; obtain ⟨⟨q0, q1, q2⟩, ⟨q3, q4⟩, ⟨q5, q6⟩, u0, u1, u2⟩ := bx _ G2)
            | (go_at_call 95; (with_reducible refine (HC1 _ E2).mono ?_); rintro e w3 ⟨v3, rfl, hb3⟩; have G3 := G2.trans (hb3.mono (by have := G2.size; omega)); have E3 := E2.trans (hb3.mono E2.size); clear q0 q1 q2 q3 q4 q5 q6 u0 u1 u2; obtain ⟨⟨q0, q1, q2⟩, ⟨q3, q4⟩, ⟨q5, q6⟩, u0, u1, u2⟩ := bx _ G3)
            | (go_at_call 96; (with_reducible refine (HP _).mono ?_); rintro e w4 ⟨rfl, rfl⟩))
          go_roundw
          case rel => exact ⟨k + 1, by go_num, by omega, fun j hj => by
            by_cases e : j = k
            · subst e; exact HK.out
            · exact Hno.out j (by omega), G3⟩
          case measure => simp [intOf]; omega
        · have HK := Lib.hid (kI_some (kF_some (n := n) Hno.out (by omega) (show outB num damp D (l0, h0) (l1, h1) (gl, gh) ll lh k = true by rw [HO.out, k1, k2]; rfl)))
          go_wp2_with (first
            | (go_at_call 95; (with_reducible refine (HC0 _ ER).mono ?_); rintro e w2 ⟨v2, rfl, hb2⟩; have G2 := hbl.trans (hb2.mono (by have := hbl.size; omega)); have E2 := ER.trans (hb2.mono ER.size); clear q0 q1 q2 q3 q4 q5 q6 u0 u1 u2; obtain ⟨⟨q0, q1, q2⟩, ⟨q3, q4⟩, ⟨q5, q6⟩, u0, u1, u2⟩ := bx _ G2)
            | (go_at_call 95; (with_reducible refine (HC1 _ E2).mono ?_); rintro e w3 ⟨v3, rfl, hb3⟩; have G3 := G2.trans (hb3.mono (by have := G2.size; omega)); have E3 := E2.trans (hb3.mono E2.size); clear q0 q1 q2 q3 q4 q5 q6 u0 u1 u2; obtain ⟨⟨q0, q1, q2⟩, ⟨q3, q4⟩, ⟨q5, q6⟩, u0, u1, u2⟩ := bx _ G3)
            | (go_at_call 96; (with_reducible refine (HP _).mono ?_); rintro e w4 ⟨rfl, rfl⟩))
          go_ret
          exact ⟨ret_int (by rw [HK.out]), E3⟩
      · have HK := Lib.hid (kI_some (kF_some (n := n) Hno.out (by omega) (show outB num damp D (l0, h0) (l1, h1) (gl, gh) ll lh k = true by rw [HO.out, k1]; rfl)))
        go_wp2_with (first
          | (go_at_call 95; (with_reducible refine (HC0 _ ER).mono ?_); rintro e w2 ⟨v2, rfl, hb2⟩; have G2 := hbl.trans (hb2.mono (by have := hbl.size; omega)); have E2 := ER.trans (hb2.mono ER.size); clear q0 q1 q2 q3 q4 q5 q6 u0 u1 u2; obtain ⟨⟨q0, q1, q2⟩, ⟨q3, q4⟩, ⟨q5, q6⟩, u0, u1, u2⟩ := bx _ G2)
          | (go_at_call 95; (with_reducible refine (HC1 _ E2).mono ?_); rintro e w3 ⟨v3, rfl, hb3⟩; have G3 := G2.trans (hb3.mono (by have := G2.size; omega)); have E3 := E2.trans (hb3.mono E2.size); clear q0 q1 q2 q3 q4 q5 q6 u0 u1 u2; obtain ⟨⟨q0, q1, q2⟩, ⟨q3, q4⟩, ⟨q5, q6⟩, u0, u1, u2⟩ := bx _ G3)
          | (go_at_call 96; (with_reducible refine (HP _).mono ?_); rintro e w4 ⟨rfl, rfl⟩))
        go_ret
        exact ⟨ret_int (by rw [HK.out]), E3⟩
    · obtain rfl : k = n + 1 := by omega
      have HK := Lib.hid (kI_none (kF_none (n := n) Hno.out))
      go_wp2
      go_ret
      exact ⟨ret_int (by rw [HK.out]), ER⟩

theorem setsE_lim (num damp D : Int) (bs : List (Int × Int)) (g : Int × Int) (n ll lh : Int) :
    setsE num damp D bs g n [(ll, lh)] = if slingV num damp D = 0 then if boxE bs = 0 ∧ vs g.1 g.2 = true ∧ vs ll lh = true then numE bs g n else 10 else 70 := by
  unfold setsE
  have : ([(ll, lh)].any badS = false) ↔ vs ll lh = true := by simp [badS]
  simp only [this]

theorem keeps_no {num damp D : Int} {bs : List (Int × Int)} {g : Int × Int} {n : Int} {l : Int × Int} {x : Int} (h : setsE num damp D bs g n [l] = x) (h0 : x ≠ 0) : KeepsV num damp D bs g n l = .tuple #[.int .i64 0, .bool false, .int .i64 x] := by
  rw [KeepsV, keepsT, keepsB, if_neg (by rw [h]; exact h0), if_neg (by rw [h]; exact h0), h]

set_option maxRecDepth 100000 in
set_option maxHeartbeats 6400000 in
theorem ref_Keeps (num damp D : Int) (vb : Value) (bs : List (Int × Int)) (gl gh n ll lh : Int) (w : World) (hR : RP w vb bs) (hl : bs.length ≤ 1000000000000000000) :
    Calls Try.prog 36 #[.agg #[.int .i64 num, .int .i64 damp, .int .i64 D], vb, .agg #[.int .i64 gl, .int .i64 gh], .int .i64 n, .agg #[.int .i64 ll, .int .i64 lh]] w (AllBelow (KeepsV num damp D bs (gl, gh) n (ll, lh)) w) := by
  obtain ⟨A, c, rfl, hc⟩ := hR.form
  have B3 := k3W_below num damp D gl gh ll lh w
  have bx := fun (W : World) (hb : Below (w.heap.size + 1 + 1 + 1) (k3W num damp D gl gh ll lh w) W) => k3W_cells hb
  have z3 : (k3W num damp D gl gh ll lh w).heap.size ≤ w.heap.size + 1 + 1 + 1 := by simp
  have z4 : w.heap.size + 1 + 1 + 1 ≤ (k3W num damp D gl gh ll lh w).heap.size := by simp
  have HSe := Lib.hid (setsE_lim num damp D bs (gl, gh) n ll lh)
  have HC := fun W => ref_Check num damp D W
  have HB := fun (W : World) (hW : Below w.heap.size w W) => ref_Check1 _ bs W (hR.below hW) hl
  have HM := fun (W : World) (hW : Below w.heap.size w W) => ref_checkNumbers _ bs gl gh n W (hR.below hW) hl
  have G0 := Below.refl (w.heap.size + 1 + 1 + 1) (k3W num damp D gl gh ll lh w)
  rcases slingV_or num damp D with k1 | k1
  · rw [k1] at HC
    rcases boxE_or bs with k2 | k2
    · rw [k2] at HB
      cases k3 : vs gl gh
      · have HE := Lib.hid (keeps_no (l := (ll, lh)) (show setsE num damp D bs (gl, gh) n [(ll, lh)] = 10 by rw [HSe.out, k1, k2, k3]; simp) (by decide))
        obtain ⟨⟨q0, q1, q2⟩, ⟨q3, q4⟩, ⟨q5, q6⟩, u0, u1, u2⟩ := bx _ G0
        clear k1 k2
        go_enter Try.func36, Try.ntmps36
        go_wp2_with (first
          | (go_at_call 15; (with_reducible refine (HC _).mono ?_); rintro e w1 ⟨rfl, hb1⟩; have E1 := B3.trans (hb1.mono B3.size); have G1 := G0.trans (hb1.mono (by have := G0.size; omega)); clear q0 q1 q2 q3 q4 q5 q6 u0 u1 u2; obtain ⟨⟨q0, q1, q2⟩, ⟨q3, q4⟩, ⟨q5, q6⟩, u0, u1, u2⟩ := bx _ G1)
          | (go_at_call 66; (with_reducible refine (HB _ E1).mono ?_); rintro e w2 ⟨rfl, hb2⟩; have E2 := E1.trans (hb2.mono E1.size); have G2 := G1.trans (hb2.mono (by have := G1.size; omega)); clear q0 q1 q2 q3 q4 q5 q6 u0 u1 u2; obtain ⟨⟨q0, q1, q2⟩, ⟨q3, q4⟩, ⟨q5, q6⟩, u0, u1, u2⟩ := bx _ G2)
          | (go_at_call 53; (with_reducible refine (valid_is _ k3).mono ?_); rintro e w3 ⟨rfl, hb3⟩; have E3 := E2.trans (hb3.mono E2.size); have G3 := G2.trans (hb3.mono (by have := G2.size; omega)); clear q0 q1 q2 q3 q4 q5 q6 u0 u1 u2; obtain ⟨⟨q0, q1, q2⟩, ⟨q3, q4⟩, ⟨q5, q6⟩, u0, u1, u2⟩ := bx _ G3))
        go_ret3
        exact ⟨by rw [HE.out]; rfl, E3⟩
      · cases k4 : vs ll lh
        · have HE := Lib.hid (keeps_no (l := (ll, lh)) (show setsE num damp D bs (gl, gh) n [(ll, lh)] = 10 by rw [HSe.out, k1, k2, k3, k4]; simp) (by decide))
          obtain ⟨⟨q0, q1, q2⟩, ⟨q3, q4⟩, ⟨q5, q6⟩, u0, u1, u2⟩ := bx _ G0
          clear k1 k2
          go_enter Try.func36, Try.ntmps36
          go_wp2_with (first
            | (go_at_call 15; (with_reducible refine (HC _).mono ?_); rintro e w1 ⟨rfl, hb1⟩; have E1 := B3.trans (hb1.mono B3.size); have G1 := G0.trans (hb1.mono (by have := G0.size; omega)); clear q0 q1 q2 q3 q4 q5 q6 u0 u1 u2; obtain ⟨⟨q0, q1, q2⟩, ⟨q3, q4⟩, ⟨q5, q6⟩, u0, u1, u2⟩ := bx _ G1)
            | (go_at_call 66; (with_reducible refine (HB _ E1).mono ?_); rintro e w2 ⟨rfl, hb2⟩; have E2 := E1.trans (hb2.mono E1.size); have G2 := G1.trans (hb2.mono (by have := G1.size; omega)); clear q0 q1 q2 q3 q4 q5 q6 u0 u1 u2; obtain ⟨⟨q0, q1, q2⟩, ⟨q3, q4⟩, ⟨q5, q6⟩, u0, u1, u2⟩ := bx _ G2)
            | (go_at_call 53; (with_reducible refine (valid_is _ k3).mono ?_); rintro e w3 ⟨rfl, hb3⟩; have E3 := E2.trans (hb3.mono E2.size); have G3 := G2.trans (hb3.mono (by have := G2.size; omega)); clear q0 q1 q2 q3 q4 q5 q6 u0 u1 u2; obtain ⟨⟨q0, q1, q2⟩, ⟨q3, q4⟩, ⟨q5, q6⟩, u0, u1, u2⟩ := bx _ G3)
            | (go_at_call 53; (with_reducible refine (valid_is _ k4).mono ?_); rintro e w4 ⟨rfl, hb4⟩; have E4 := E3.trans (hb4.mono E3.size); have G4 := G3.trans (hb4.mono (by have := G3.size; omega)); clear q0 q1 q2 q3 q4 q5 q6 u0 u1 u2; obtain ⟨⟨q0, q1, q2⟩, ⟨q3, q4⟩, ⟨q5, q6⟩, u0, u1, u2⟩ := bx _ G4))
          go_ret3
          exact ⟨by rw [HE.out]; rfl, E4⟩
        · have HE0 := Lib.hid (show setsE num damp D bs (gl, gh) n [(ll, lh)] = numE bs (gl, gh) n by rw [HSe.out, k1, k2, k3, k4]; simp)
          by_cases k5 : numE bs (gl, gh) n = 0
          · rw [k5] at HM
            obtain ⟨l0, h0, l1, h1, m, hr⟩ := sets_zero (HE0.out.trans k5)
            obtain ⟨rfl, rfl, hm, hok, hS, _, _, _, _, _, _, hlim⟩ := hr
            obtain ⟨a1, a2, a3⟩ := hlim (ll, lh) (by simp)
            dsimp only at a1 a2 a3
            have HE := Lib.hid (show KeepsV num damp D [(l0, h0), (l1, h1)] (gl, gh) m (ll, lh) = .tuple #[.int .i64 (kT (outB num damp D (l0, h0) (l1, h1) (gl, gh) ll lh) m), .bool (!kB (outB num damp D (l0, h0) (l1, h1) (gl, gh) ll lh) m), .int .i64 0] by
              rw [KeepsV, keepsT, keepsB, if_pos (HE0.out.trans k5), if_pos (HE0.out.trans k5), HE0.out, k5]; rfl)
            have HK := fun (W : World) (hW : Below w.heap.size w W) => ref_keeps num damp D gl gh l0 h0 l1 h1 ll lh (.slice A 2 c) m W (hR.below hW) hok hm hS (by omega) (by omega)
            obtain ⟨b0, b1, b2⟩ := kI_T (outB num damp D (l0, h0) (l1, h1) (gl, gh) ll lh) m
            generalize kI (outB num damp D (l0, h0) (l1, h1) (gl, gh) ll lh) m = KI at HK b0 b1 b2
            rw [← b1, ← b2] at HE
            clear b1 b2
            simp only [List.length_cons, List.length_nil, Nat.zero_add, Nat.reduceAdd] at HB HM
            obtain ⟨⟨q0, q1, q2⟩, ⟨q3, q4⟩, ⟨q5, q6⟩, u0, u1, u2⟩ := bx _ G0
            clear k1 k2
            go_enter Try.func36, Try.ntmps36
            go_wp2_with (first
              | (go_at_call 15; (with_reducible refine (HC _).mono ?_); rintro e w1 ⟨rfl, hb1⟩; have E1 := B3.trans (hb1.mono B3.size); have G1 := G0.trans (hb1.mono (by have := G0.size; omega)); clear q0 q1 q2 q3 q4 q5 q6 u0 u1 u2; obtain ⟨⟨q0, q1, q2⟩, ⟨q3, q4⟩, ⟨q5, q6⟩, u0, u1, u2⟩ := bx _ G1)
              | (go_at_call 66; (with_reducible refine (HB _ E1).mono ?_); rintro e w2 ⟨rfl, hb2⟩; have E2 := E1.trans (hb2.mono E1.size); have G2 := G1.trans (hb2.mono (by have := G1.size; omega)); clear q0 q1 q2 q3 q4 q5 q6 u0 u1 u2; obtain ⟨⟨q0, q1, q2⟩, ⟨q3, q4⟩, ⟨q5, q6⟩, u0, u1, u2⟩ := bx _ G2)
              | (go_at_call 53; (with_reducible refine (valid_is _ k3).mono ?_); rintro e w3 ⟨rfl, hb3⟩; have E3 := E2.trans (hb3.mono E2.size); have G3 := G2.trans (hb3.mono (by have := G2.size; omega)); clear q0 q1 q2 q3 q4 q5 q6 u0 u1 u2; obtain ⟨⟨q0, q1, q2⟩, ⟨q3, q4⟩, ⟨q5, q6⟩, u0, u1, u2⟩ := bx _ G3)
              | (go_at_call 53; (with_reducible refine (valid_is _ k4).mono ?_); rintro e w4 ⟨rfl, hb4⟩; have E4 := E3.trans (hb4.mono E3.size); have G4 := G3.trans (hb4.mono (by have := G3.size; omega)); clear q0 q1 q2 q3 q4 q5 q6 u0 u1 u2; obtain ⟨⟨q0, q1, q2⟩, ⟨q3, q4⟩, ⟨q5, q6⟩, u0, u1, u2⟩ := bx _ G4)
              | (go_at_call 67; (with_reducible refine (HM _ E4).mono ?_); rintro e w5 ⟨rfl, hb5⟩; have E5 := E4.trans (hb5.mono E4.size); have G5 := G4.trans (hb5.mono (by have := G4.size; omega)); clear q0 q1 q2 q3 q4 q5 q6 u0 u1 u2; obtain ⟨⟨q0, q1, q2⟩, ⟨q3, q4⟩, ⟨q5, q6⟩, u0, u1, u2⟩ := bx _ G5)
              | (go_at_call 77; (with_reducible refine (HK _ E5).mono ?_); rintro e w6 ⟨rfl, hb6⟩; have E6 := E5.trans (hb6.mono E5.size); have G6 := G5.trans (hb6.mono (by have := G5.size; omega)); clear q0 q1 q2 q3 q4 q5 q6 u0 u1 u2; obtain ⟨⟨q0, q1, q2⟩, ⟨q3, q4⟩, ⟨q5, q6⟩, u0, u1, u2⟩ := bx _ G6))
            all_goals go_ret3
            all_goals
              by_cases h6 : KI < 0
              · obtain rfl : KI = -1 := by omega
                first
                  | (exfalso; omega)
                  | exact ⟨by rw [HE.out]; rfl, E6⟩
              · have hm1 : max KI 0 = KI := by omega
                have hm2 : decide (KI < 0) = false := by simpa using h6
                first
                  | (exfalso; omega)
                  | exact ⟨by rw [HE.out, hm1, hm2]; rfl, E6⟩
                  | (obtain rfl : KI = 0 := by omega
                     exact ⟨by rw [HE.out]; rfl, E6⟩)
                  | exact ⟨by rw [HE.out, hm1]; rfl, E6⟩
          · have HE := Lib.hid (keeps_no (l := (ll, lh)) HE0.out k5)
            have e1 : (numE bs (gl, gh) n != 0) = true := by simpa using k5
            clear k5
            obtain ⟨⟨q0, q1, q2⟩, ⟨q3, q4⟩, ⟨q5, q6⟩, u0, u1, u2⟩ := bx _ G0
            clear k1 k2
            go_enter Try.func36, Try.ntmps36
            go_wp2_with (first
              | (go_at_call 15; (with_reducible refine (HC _).mono ?_); rintro e w1 ⟨rfl, hb1⟩; have E1 := B3.trans (hb1.mono B3.size); have G1 := G0.trans (hb1.mono (by have := G0.size; omega)); clear q0 q1 q2 q3 q4 q5 q6 u0 u1 u2; obtain ⟨⟨q0, q1, q2⟩, ⟨q3, q4⟩, ⟨q5, q6⟩, u0, u1, u2⟩ := bx _ G1)
              | (go_at_call 66; (with_reducible refine (HB _ E1).mono ?_); rintro e w2 ⟨rfl, hb2⟩; have E2 := E1.trans (hb2.mono E1.size); have G2 := G1.trans (hb2.mono (by have := G1.size; omega)); clear q0 q1 q2 q3 q4 q5 q6 u0 u1 u2; obtain ⟨⟨q0, q1, q2⟩, ⟨q3, q4⟩, ⟨q5, q6⟩, u0, u1, u2⟩ := bx _ G2)
              | (go_at_call 53; (with_reducible refine (valid_is _ k3).mono ?_); rintro e w3 ⟨rfl, hb3⟩; have E3 := E2.trans (hb3.mono E2.size); have G3 := G2.trans (hb3.mono (by have := G2.size; omega)); clear q0 q1 q2 q3 q4 q5 q6 u0 u1 u2; obtain ⟨⟨q0, q1, q2⟩, ⟨q3, q4⟩, ⟨q5, q6⟩, u0, u1, u2⟩ := bx _ G3)
              | (go_at_call 53; (with_reducible refine (valid_is _ k4).mono ?_); rintro e w4 ⟨rfl, hb4⟩; have E4 := E3.trans (hb4.mono E3.size); have G4 := G3.trans (hb4.mono (by have := G3.size; omega)); clear q0 q1 q2 q3 q4 q5 q6 u0 u1 u2; obtain ⟨⟨q0, q1, q2⟩, ⟨q3, q4⟩, ⟨q5, q6⟩, u0, u1, u2⟩ := bx _ G4)
              | (go_at_call 67; (with_reducible refine (HM _ E4).mono ?_); rintro e w5 ⟨rfl, hb5⟩; have E5 := E4.trans (hb5.mono E4.size); have G5 := G4.trans (hb5.mono (by have := G4.size; omega)); clear q0 q1 q2 q3 q4 q5 q6 u0 u1 u2; obtain ⟨⟨q0, q1, q2⟩, ⟨q3, q4⟩, ⟨q5, q6⟩, u0, u1, u2⟩ := bx _ G5))
            go_ret3
            exact ⟨by rw [HE.out]; rfl, E5⟩
    · rw [k2] at HB
      have HE := Lib.hid (keeps_no (l := (ll, lh)) (show setsE num damp D bs (gl, gh) n [(ll, lh)] = 10 by rw [HSe.out, k1, k2]; simp) (by decide))
      obtain ⟨⟨q0, q1, q2⟩, ⟨q3, q4⟩, ⟨q5, q6⟩, u0, u1, u2⟩ := bx _ G0
      clear k1 k2
      go_enter Try.func36, Try.ntmps36
      go_wp2_with (first
        | (go_at_call 15; (with_reducible refine (HC _).mono ?_); rintro e w1 ⟨rfl, hb1⟩; have E1 := B3.trans (hb1.mono B3.size); have G1 := G0.trans (hb1.mono (by have := G0.size; omega)); clear q0 q1 q2 q3 q4 q5 q6 u0 u1 u2; obtain ⟨⟨q0, q1, q2⟩, ⟨q3, q4⟩, ⟨q5, q6⟩, u0, u1, u2⟩ := bx _ G1)
        | (go_at_call 66; (with_reducible refine (HB _ E1).mono ?_); rintro e w2 ⟨rfl, hb2⟩; have E2 := E1.trans (hb2.mono E1.size); have G2 := G1.trans (hb2.mono (by have := G1.size; omega)); clear q0 q1 q2 q3 q4 q5 q6 u0 u1 u2; obtain ⟨⟨q0, q1, q2⟩, ⟨q3, q4⟩, ⟨q5, q6⟩, u0, u1, u2⟩ := bx _ G2))
      go_ret3
      exact ⟨by rw [HE.out]; rfl, E2⟩
  · rw [k1] at HC
    have HE := Lib.hid (keeps_no (l := (ll, lh)) (show setsE num damp D bs (gl, gh) n [(ll, lh)] = 70 by rw [HSe.out, k1]; simp) (by decide))
    obtain ⟨⟨q0, q1, q2⟩, ⟨q3, q4⟩, ⟨q5, q6⟩, u0, u1, u2⟩ := bx _ G0
    clear k1
    go_enter Try.func36, Try.ntmps36
    go_wp2_with (first
      | (go_at_call 15; (with_reducible refine (HC _).mono ?_); rintro e w1 ⟨rfl, hb1⟩; have E1 := B3.trans (hb1.mono B3.size); have G1 := G0.trans (hb1.mono (by have := G0.size; omega)); clear q0 q1 q2 q3 q4 q5 q6 u0 u1 u2; obtain ⟨⟨q0, q1, q2⟩, ⟨q3, q4⟩, ⟨q5, q6⟩, u0, u1, u2⟩ := bx _ G1))
    go_ret3
    exact ⟨by rw [HE.out]; rfl, E1⟩

end Go.Proofs.Ytliddinpfgpnfaa
