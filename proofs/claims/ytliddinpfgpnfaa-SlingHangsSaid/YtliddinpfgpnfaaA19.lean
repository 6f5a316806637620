/- Contracts: the example, equal lists of fractions, a fraction, and the reference's Check. -/
import Derived.Test.YtliddinpfgpnfaaA18
import Derived.Laws.StructEq
namespace Go.Proofs.Ytliddinpfgpnfaa
open Go Go.RowKit Go.Sort
set_option linter.unusedSimpArgs false
set_option linter.unusedVariables false

theorem ref_within (n lo hi : Int) (w : World) :
    Calls Try.prog 48 #[.int .i64 n, .int .i64 lo, .int .i64 hi] w fun e w' => e = .returned (.bool (wi n lo hi)) ∧ w = w' := by
  by_cases h : lo ≤ n
  all_goals
    go_enter Try.func48, Try.ntmps48
    go_wp2
    go_ret
    simp [wi]
    try omega

set_option maxHeartbeats 400000 in
theorem ref_Check (a b c : Int) (w : World) :
    Calls Try.prog 15 #[.agg #[.int .i64 a, .int .i64 b, .int .i64 c]] w (AllBelow (.int .i64 (slingV a b c)) w) := by
  go_enter Try.func15, Try.ntmps15
  go_wp2_with (go_at_call 48; refine (ref_within _ _ _ _).mono ?_; rintro e w' ⟨rfl, rfl⟩)
  all_goals go_ret
  all_goals (refine ⟨by simp_all [slingV], (Below.refl _ _).alloc (Nat.le_refl _) _⟩)

theorem law_fraction (a b : Int) (w : World) : Calls Try.prog 16 #[.agg #[.int .i64 a, .int .i64 b]] w (AllBelow (.bool (decide (0 < b))) w) := by
  go_enter Try.func16, Try.ntmps16
  go_wp2
  go_ret
  exact ⟨rfl, (Below.refl _ _).alloc (Nat.le_refl _) _⟩

theorem RI.two {w : World} {b : Nat} {x y : Int} (h0 : w.cell? ⟨b, 0, none⟩ = some (.int .i64 x)) (h1 : w.cell? ⟨b, 1, none⟩ = some (.int .i64 y)) : RI w (.slice (some ⟨b, 0, none⟩) 2 2) [x, y] :=
  ⟨_, 2, rfl, Nat.le_refl _, rfl, fun j u hu => ⟨b, 0, rfl, by
    rcases j with _ | _ | j
    · cases hu; exact h0
    · cases hu; exact h1
    · simp at hu⟩⟩

theorem RII.two {w : World} {b : Nat} {u v : Value} {r s : List Int} (h0 : w.cell? ⟨b, 0, none⟩ = some u) (h1 : w.cell? ⟨b, 1, none⟩ = some v) (hr : RI w u r) (hs : RI w v s) : RII w (.slice (some ⟨b, 0, none⟩) 2 2) [r, s] :=
  ⟨_, 2, rfl, Nat.le_refl _, fun j u hu => by
    rcases j with _ | _ | j
    · cases hu; exact ⟨b, 0, _, rfl, h0, hr⟩
    · cases hu; exact ⟨b, 0, _, rfl, h1, hs⟩
    · simp at hu⟩

def ExPost (w : World) (e : Ending) (w' : World) : Prop := ∃ vX vY vV, e = .returned (.agg #[.int .i64 50, vX, vY, vV, .int .i64 2]) ∧ Below w.heap.size w w' ∧ RT w' vX vY vV [0, 50] [0, 20] [[300, 200], [200, 100]]

theorem law_Example (w : World) : Calls Try.prog 39 #[] w (ExPost w) := by
  go_enter Try.func39, Try.ntmps39
  go_wp2
  refine bodyPost_ret (v := .agg #[.int .i64 50, .slice (some ⟨w.heap.size + 1, 0, none⟩) 2 2, .slice (some ⟨w.heap.size + 1 + 1, 0, none⟩) 2 2, .slice (some ⟨w.heap.size + 1 + 1 + 1 + 1 + 1, 0, none⟩) 2 2, .int .i64 2]) (by simp [results, Try.results39, go_sem]) rfl ⟨_, _, _, rfl, ?_, ?_⟩
  · exact (((((((Below.refl _ _).alloc (Nat.le_refl _) _).alloc (by simp) _).alloc (by simp; omega) _).alloc (by simp; omega) _).alloc (by simp; omega) _).alloc (by simp; omega) _)
  · refine ⟨RI.two ?_ ?_, RI.two ?_ ?_, RII.two (u := .slice (some ⟨w.heap.size + 1 + 1 + 1, 0, none⟩) 2 2) (v := .slice (some ⟨w.heap.size + 1 + 1 + 1 + 1, 0, none⟩) 2 2) ?_ ?_ (RI.two ?_ ?_) (RI.two ?_ ?_), by decide, by decide, by decide, by decide⟩
    all_goals simp [go_sem]

theorem eq24 (d : Nat) (a b c e : Int) (w : World) : (Op.equalIn (d + 2) 24 (.agg #[.int .i64 a, .int .i64 b]) (.agg #[.int .i64 c, .int .i64 e])).run Try.prog w = .ok (decide (a = c) && decide (b = e)) w := by
  have hu : Try.prog.underlying 24 = some (.array 2 3) := by kernel_rfl
  have h3 : Try.prog.underlying 3 = some (.int .i64) := by kernel_rfl
  have hr : ∀ (β : Type) (f : Nat → β → Sem (ForInStep β)) (b : β), (forIn [:2] b f : Sem β) = forIn [0, 1] b f := fun β f b => by
    rw [Std.Legacy.Range.forIn_eq_forIn_range']; rfl
  rw [Op.equalIn]
  simp only [Sem.run_bind, run_underlying hu, Result.andThen_ok, hr]
  have hs : (sizeOf 3).run Try.prog w = .ok 1 w := by simp [go_sem]
  have p0 : ∀ x y : Int, (part 3 #[.int .i64 x, .int .i64 y] 0).run Try.prog w = .ok (.int .i64 x) w := fun x y => by simp [go_sem]
  have p1 : ∀ x y : Int, (part 3 #[.int .i64 x, .int .i64 y] 1).run Try.prog w = .ok (.int .i64 y) w := fun x y => by simp [go_sem]
  simp only [hs, Result.andThen_ok, List.forIn_cons, List.forIn_nil, Sem.run_bind, Nat.zero_mul, Nat.one_mul, p0, p1, run_equalIn_int w d 3 .i64 .i64 _ _ h3]
  by_cases h1 : a = c
  · by_cases h2 : b = e
    · simp [h1, h2, hs, p0, p1, run_equalIn_int w d 3 .i64 .i64 _ _ h3]
    · simp [h1, h2, hs, p0, p1, run_equalIn_int w d 3 .i64 .i64 _ _ h3]
  · simp [h1, hs, p0, p1, run_equalIn_int w d 3 .i64 .i64 _ _ h3]
@[go_sem] theorem eq24' (a b c e : Int) (w : World) : (Op.equalIn 10000 24 (.agg #[.int .i64 a, .int .i64 b]) (.agg #[.int .i64 c, .int .i64 e])).run Try.prog w = .ok (decide (a = c) && decide (b = e)) w := eq24 9998 a b c e w

def sameP (w : World) (ps qs : List (Int × Int)) (e : Ending) (w' : World) : Prop := AllBelow (.bool (decide (ps = qs))) w e w'

theorem same_prefix {ps qs : List (Int × Int)} {k : Nat} {x y : Int × Int} (h : ps.take k = qs.take k) (hx : ps[k]? = some x) (hy : qs[k]? = some y) (e : x = y) : ps.take (k + 1) = qs.take (k + 1) := by
  rw [List.take_add_one, List.take_add_one, h, hx, hy, e]

set_option maxHeartbeats 3200000 in
theorem law_sameFractions (va vb : Value) (ps qs : List (Int × Int)) (w : World) (hA : RP w va ps) (hB : RP w vb qs) (hla : ps.length ≤ 1000000) (hlb : qs.length ≤ 1000000) : Calls Try.prog 40 #[va, vb] w (sameP w ps qs) := by
  obtain ⟨A, ca, rfl, hca⟩ := hA.form
  obtain ⟨B, cb, rfl, hcb⟩ := hB.form
  by_cases hl : ps.length = qs.length
  · have hL := Lib.hid hl
    have hl2 : ((ps.length : Int) != (qs.length : Int)) = false := by rw [hl]; simp
    clear hl
    go_enter Try.func40, Try.ntmps40
    go_wp2
    go_loopw [5] (fun s5 wr => ∃ k : Nat, s5 = .int .i64 k ∧ k ≤ ps.length ∧ ps.take k = qs.take k ∧ Below w.heap.size w wr) (fun s5 _ => ps.length - (intOf s5).toNat)
    case atStart => exact ⟨0, rfl, by omega, rfl, Below.refl _ _⟩
    case round =>
      obtain ⟨k, rfl, hk, hpre, hbl⟩ := hrel
      have HP := Lib.hid hpre
      clear hpre
      by_cases hlt : k < ps.length
      · obtain ⟨b, o, c', x0, x1, e, hb, hx, hcell0, hcell1⟩ := (hA.below hbl).at hlt
        obtain ⟨b', o', c'', y0, y1, e', hb', hy, hcell0', hcell1'⟩ := (hB.below hbl).at (show k < qs.length by have := hL.out; omega)
        cases e
        cases e'
        have Hx := Lib.hid hx
        have Hy := Lib.hid hy
        clear hx hy
        have hq : k < qs.length := by have := hL.out; omega
        by_cases hxy : x0 = y0 ∧ x1 = y1
        · obtain ⟨rfl, rfl⟩ := hxy
          go_wp2_with fail
          go_region
          go_wp2
          go_round
          case rel => exact ⟨k + 1, by go_num, by omega, same_prefix HP.out Hx.out Hy.out rfl, hbl.drew⟩
          case measure => simp [intOf]; omega
        · have hn : (ps = qs) = False := eq_false (fun e => by have := Hx.out; rw [e, Hy.out] at this; cases this; exact hxy ⟨rfl, rfl⟩)
          have hd : (decide (x0 = y0) && decide (x1 = y1)) = false := by
            rw [Bool.and_eq_false_iff, decide_eq_false_iff_not, decide_eq_false_iff_not]
            by_cases c0 : x0 = y0
            · exact Or.inr (fun e => hxy ⟨c0, e⟩)
            · exact Or.inl c0
          have HN := Lib.hid hn
          clear hn hxy
          go_wp2_with fail
          go_region
          go_wp2
          go_ret
          exact ⟨ret_bool (by simp [HN.out]), hbl.drew⟩
      · go_wp2
        go_ret
        refine ⟨ret_bool ?_, hbl⟩
        have e1 := HP.out
        rw [List.take_of_length_le (by omega), List.take_of_length_le (by have := hL.out; omega)] at e1
        simp [e1]
  · have hl2 : ((ps.length : Int) != (qs.length : Int)) = true := by simp; omega
    go_enter Try.func40, Try.ntmps40
    go_wp2
    go_ret
    exact ⟨ret_bool (by rw [eq_comm, decide_eq_false_iff_not]; intro e; exact hl (by rw [e])), Below.refl _ _⟩

end Go.Proofs.Ytliddinpfgpnfaa
