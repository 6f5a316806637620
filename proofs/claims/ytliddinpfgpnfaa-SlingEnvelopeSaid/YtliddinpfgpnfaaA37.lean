/- Contracts: the greatest and the least displacement of a set, and whether it keeps a limit. -/
import Derived.Test.YtliddinpfgpnfaaA36
namespace Go.Proofs.Ytliddinpfgpnfaa
open Go Go.RowKit Go.Sort
set_option linter.unusedSimpArgs false
set_option linter.unusedVariables false

theorem RI.formN {w : World} {v : Value} {zs : List Int} {n : Nat} (h : RI w v zs) (hn : zs.length = n) : ∃ A c, v = .slice A n c ∧ n ≤ c := by
  subst hn; exact h.form

theorem RI.atN {w : World} {v : Value} {zs : List Int} {n k : Nat} {x : Int} (h : RI w v zs) (hn : zs.length = n) (hx : zs[k]? = some x) :
    ∃ b o c, v = .slice (some ⟨b, o, none⟩) n c ∧ b < w.heap.size ∧ w.cell? ⟨b, o + k, none⟩ = some (.int .i64 x) := by
  obtain ⟨b, o, c, y, e, hb, hy, hc⟩ := h.at (List.getElem?_eq_some_iff.1 hx).1
  rw [hx] at hy; cases hy
  subst hn
  exact ⟨b, o, c, e, hb, hc⟩

theorem mul_abs {x y X Y : Int} (hx : (x.natAbs : Int) ≤ X) (hy : (y.natAbs : Int) ≤ Y) : ((x * y).natAbs : Int) ≤ X * Y := by
  rw [Int.natAbs_mul]; push_cast; exact Int.mul_le_mul hx hy (by omega) (by omega)

set_option maxRecDepth 100000 in
set_option maxHeartbeats 3200000 in
theorem sling_most (b : Nat) (num damp D gl gh l0 h0 l1 h1 : Int) (vb : Value) (n : Nat) (high : Bool) (w : World) (hb : w.heap[b]? = some (setC num damp D vb gl gh)) (hR : RP w vb [(l0, h0), (l1, h1)]) (hok : ok3 num damp D) (hn : n ≤ 16)
    (hS : SmallS (l0, h0) (l1, h1) (gl, gh)) :
    Calls Try.prog 70 #[.pointer (some ⟨b, 0, none⟩), .int .i64 n, .bool high] w (AllBelow (.tuple #[.int .i64 (mostN num damp D (l0, h0) (l1, h1) (gl, gh) n high), .int .i64 (D ^ n)]) w) := by
  have hlt : b < w.heap.size := hp_lt hb
  have HB := Lib.hid hb
  have HP := sling_parts b num damp D gl gh vb n w hb hok hn
  clear hb
  go_enter Try.func70, Try.ntmps70
  go_wp2_with fail
  refine HP.mono ?_
  rintro e w1 ⟨vo, rfl, E1, hvo'⟩
  have hvo : RI w1 vo (partsL num damp D n) := RS.of_own hvo'
  clear hvo'
  have HVO := Lib.hid hvo
  obtain ⟨Av, cv, rfl, hcv⟩ := hvo.formN (partsL_len num damp D n)
  clear hvo HP
  go_wp2_with fail
  go_loopw [6, 19] (fun s6 s19 wr => ∃ k : Nat, s19 = .int .i64 k ∧ k ≤ n + 2 ∧ s6 = .int .i64 (sumTo k (termN num damp D (l0, h0) (l1, h1) (gl, gh) n high)) ∧ Below w1.heap.size w1 wr) (fun _ s19 _ => n + 2 - (intOf s19).toNat)
  case atStart => exact ⟨0, rfl, by omega, rfl, Below.refl _ _⟩
  case round =>
    obtain ⟨k, rfl, hk, rfl, hbl⟩ := hrel
    have ER := E1.trans (hbl.mono E1.size)
    by_cases hkn : k < n + 2
    · obtain ⟨bv, ov, cv', e, hbv, hcell⟩ := (HVO.out.below hbl).atN (partsL_len num damp D n) (partsL_at hkn)
      cases e
      have i1 : (k : Int) < (n : Int) + 2 := by omega
      have i2 : (0 : Int) ≤ (k : Int) := by omega
      have t1 := part_abs hok hn hkn
      have t2 := endV_abs (p := partN num damp D n k) (high := high) (hS k).1 (hS k).2
      have t3 := mul_abs t1 t2
      have t4 := sum_abs hok hS (k := k) hn (by omega) high
      have HT := Lib.hid (show sumTo (k + 1) (termN num damp D (l0, h0) (l1, h1) (gl, gh) n high) = sumTo k (termN num damp D (l0, h0) (l1, h1) (gl, gh) n high) + partN num damp D n k * endV (partN num damp D n k) (spanAt (l0, h0) (l1, h1) (gl, gh) k).1 (spanAt (l0, h0) (l1, h1) (gl, gh) k).2 high from rfl)
      have HC := fun (W : World) (hW : Below wr.heap.size wr W) => sling_span b num damp D gl gh l0 h0 l1 h1 vb k W (((ER.trans (hW.mono ER.size)).block b hlt).trans HB.out) (hR.below (ER.trans (hW.mono ER.size)))
      generalize spanAt (l0, h0) (l1, h1) (gl, gh) k = sp at t2 t3 HT HC
      generalize partN num damp D n k = P at t1 t2 t3 HT hcell
      generalize sumTo k (termN num damp D (l0, h0) (l1, h1) (gl, gh) n high) = S0 at t4 HT
      obtain ⟨sl, sh⟩ := sp
      replace HT := HT.out
      dsimp only at t2 t3 HT
      replace HT := Lib.hid HT
      have t5 : IntKind.i64.wrap (P * endV P sl sh high) = P * endV P sl sh high := IntWalk.i64_in _ (by omega)
      have t6 : IntKind.i64.wrap (S0 + P * endV P sl sh high) = S0 + P * endV P sl sh high := IntWalk.i64_in _ (by omega)
      have HE := fun W => sling_end P sl sh high W
      generalize endV P sl sh high = E at t2 t3 t5 t6 HT HE
      clear t1 t2 t3 t4
      simp only [pairV] at HC
      go_wp2_with (first
        | (go_at_call 73; (with_reducible refine (HC _ (Below.refl _ _)).mono ?_); rintro e w2 ⟨rfl, hb2⟩)
        | (go_at_call 72; (with_reducible refine (HE _).mono ?_); rintro e w3 ⟨rfl, hb3⟩))
      go_roundw
      case rel => exact ⟨k + 1, by go_num, by omega, by rw [HT.out], (hbl.trans (hb2.mono hbl.size)).trans (hb3.mono (by have := hb2.size; have := hbl.size; omega))⟩
      case measure => simp [intOf]; omega
    · obtain rfl : k = n + 2 := by omega
      go_wp2
      go_ret2
      exact ⟨rfl, ER⟩

end Go.Proofs.Ytliddinpfgpnfaa
