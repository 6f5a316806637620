/- Contract: whether a set keeps a limit. -/
import Derived.Test.YtliddinpfgpnfaaA37
import Derived.Test.YtliddinpfgpnfaaL12
namespace Go.Proofs.Ytliddinpfgpnfaa
open Go Go.RowKit Go.Sort
set_option linter.unusedSimpArgs false
set_option linter.unusedVariables false

/-- Bounds that all sets keep, that newSet lets in. -/
structure SetOk (num damp D : Int) (b0 b1 g : Int × Int) : Prop where
  ok : ok3 num damp D
  small : SmallS b0 b1 g

set_option maxRecDepth 100000 in
set_option maxHeartbeats 3200000 in
theorem sling_keeps (b : Nat) (num damp D gl gh l0 h0 l1 h1 ll lh : Int) (vb : Value) (n : Nat) (w : World) (hb : w.heap[b]? = some (setC num damp D vb gl gh)) (hR : RP w vb [(l0, h0), (l1, h1)]) (hok : ok3 num damp D) (hn : n ≤ 16)
    (hS : SmallS (l0, h0) (l1, h1) (gl, gh)) (hll : (ll.natAbs : Int) ≤ 1000000) (hlh : (lh.natAbs : Int) ≤ 1000000) :
    Calls Try.prog 76 #[.pointer (some ⟨b, 0, none⟩), .int .i64 n, .agg #[.int .i64 ll, .int .i64 lh]] w (AllBelow (.tuple #[.int .i64 (kT (outB num damp D (l0, h0) (l1, h1) (gl, gh) ll lh) n), .bool (kB (outB num damp D (l0, h0) (l1, h1) (gl, gh) ll lh) n)]) w) := by
  have hlt : b < w.heap.size := hp_lt hb
  have HB := Lib.hid hb
  clear hb
  go_enter Try.func76, Try.ntmps76
  go_wp2_with fail
  go_loopw [15] (fun s15 wr => ∃ k : Nat, s15 = .int .i64 k ∧ k ≤ n + 1 ∧ (∀ j, j < k → outB num damp D (l0, h0) (l1, h1) (gl, gh) ll lh j = false) ∧ Below (w.heap.size + 1) (w.alloc (.cells #[.int .i64 ll, .int .i64 lh] 27)) wr) (fun s15 _ => n + 1 - (intOf s15).toNat)
  case atStart => exact ⟨0, rfl, by omega, fun j hj => by omega, Below.refl _ _⟩
  case round =>
    obtain ⟨k, rfl, hk, hno, hbl⟩ := hrel
    have Hno := Lib.hid hno
    clear hno
    have E0 : Below w.heap.size w (w.alloc (.cells #[.int .i64 ll, .int .i64 lh] 27)) := (Below.refl _ _).alloc (Nat.le_refl _) _
    have ER := E0.trans (hbl.mono (by omega))
    have hT := (hbl.block w.heap.size (by omega)).trans (heap_alloc_new w _)
    by_cases hkn : k < n + 1
    · have i1 : (k : Int) < (n : Int) + 1 := by omega
      have i2 : (0 : Int) ≤ (k : Int) := by omega
      have t1 := lim_abs hok hll (n := k) (by omega)
      have t2 := lim_abs hok hlh (n := k) (by omega)
      have HC := fun (high : Bool) (W : World) (hW : Below wr.heap.size wr W) => sling_most b num damp D gl gh l0 h0 l1 h1 vb k high W (((ER.trans (hW.mono ER.size)).block b hlt).trans HB.out) (hR.below (ER.trans (hW.mono ER.size))) hok (by omega) hS
      have HO := Lib.hid (show outB num damp D (l0, h0) (l1, h1) (gl, gh) ll lh k = (decide (mostN num damp D (l0, h0) (l1, h1) (gl, gh) k false < ll * D ^ k) || decide (lh * D ^ k < mostN num damp D (l0, h0) (l1, h1) (gl, gh) k true)) from rfl)
      have HC0 := HC false
      have HC1 := HC true
      clear HC
      generalize mostN num damp D (l0, h0) (l1, h1) (gl, gh) k false = M0 at HC0 HO
      generalize mostN num damp D (l0, h0) (l1, h1) (gl, gh) k true = M1 at HC1 HO
      generalize D ^ k = d at t1 t2 HC0 HC1 HO
      have t3 : IntKind.i64.wrap (ll * d) = ll * d := IntWalk.i64_in _ (by omega)
      have t4 : IntKind.i64.wrap (lh * d) = lh * d := IntWalk.i64_in _ (by omega)
      clear t1 t2
      have u1 : w.heap.size < wr.heap.size := hp_lt hT
      have HT := Lib.hid hT
      clear hT
      have hx := fun (W : World) (hW : Below wr.heap.size wr W) => blk_cells ((hW.block w.heap.size u1).trans HT.out)
      cases k1 : decide (M0 < ll * d)
      · cases k2 : decide (lh * d < M1)
        · have HK := Lib.hid (show outB num damp D (l0, h0) (l1, h1) (gl, gh) ll lh k = false by rw [HO.out, k1, k2]; rfl)
          go_wp2_with (first
            | (go_at_call 70; (with_reducible refine (HC0 _ (Below.refl _ _)).mono ?_); rintro e w2 ⟨rfl, hb2⟩)
            | (go_at_call 70; (with_reducible refine (HC1 _ hb2).mono ?_); rintro e w3 ⟨rfl, hb3⟩; have E3 := hb2.trans (hb3.mono hb2.size); have hx0 := (hx _ E3 0).1; have hx1 := (hx _ E3 1).1; simp only [Array.getElem?_eq_getElem, List.size_toArray, List.length_cons, List.length_nil, Nat.reduceAdd, Nat.reduceLT, List.getElem_toArray, List.getElem_cons_zero, List.getElem_cons_succ] at hx0 hx1))
          go_roundw
          case rel => exact ⟨k + 1, by go_num, by omega, fun j hj => by
            by_cases e : j = k
            · subst e; exact HK.out
            · exact Hno.out j (by omega), hbl.trans (E3.mono (by omega))⟩
          case measure => simp [intOf]; omega
        · have HK := Lib.hid (kT_some (kF_some (n := n) Hno.out (by omega) (show outB num damp D (l0, h0) (l1, h1) (gl, gh) ll lh k = true by rw [HO.out, k1, k2]; rfl)))
          go_wp2_with (first
            | (go_at_call 70; (with_reducible refine (HC0 _ (Below.refl _ _)).mono ?_); rintro e w2 ⟨rfl, hb2⟩)
            | (go_at_call 70; (with_reducible refine (HC1 _ hb2).mono ?_); rintro e w3 ⟨rfl, hb3⟩; have E3 := hb2.trans (hb3.mono hb2.size); have hx0 := (hx _ E3 0).1; have hx1 := (hx _ E3 1).1; simp only [Array.getElem?_eq_getElem, List.size_toArray, List.length_cons, List.length_nil, Nat.reduceAdd, Nat.reduceLT, List.getElem_toArray, List.getElem_cons_zero, List.getElem_cons_succ] at hx0 hx1))
          go_ret2
          exact ⟨by rw [HK.out.1, HK.out.2]; rfl, ER.trans (E3.mono ER.size)⟩
      · have HK := Lib.hid (kT_some (kF_some (n := n) Hno.out (by omega) (show outB num damp D (l0, h0) (l1, h1) (gl, gh) ll lh k = true by rw [HO.out, k1]; rfl)))
        go_wp2_with (first
          | (go_at_call 70; (with_reducible refine (HC0 _ (Below.refl _ _)).mono ?_); rintro e w2 ⟨rfl, hb2⟩)
          | (go_at_call 70; (with_reducible refine (HC1 _ hb2).mono ?_); rintro e w3 ⟨rfl, hb3⟩; have E3 := hb2.trans (hb3.mono hb2.size); have hx0 := (hx _ E3 0).1; have hx1 := (hx _ E3 1).1; simp only [Array.getElem?_eq_getElem, List.size_toArray, List.length_cons, List.length_nil, Nat.reduceAdd, Nat.reduceLT, List.getElem_toArray, List.getElem_cons_zero, List.getElem_cons_succ] at hx0 hx1))
        go_ret2
        exact ⟨by rw [HK.out.1, HK.out.2]; rfl, ER.trans (E3.mono ER.size)⟩
    · obtain rfl : k = n + 1 := by omega
      have HK := Lib.hid (kT_none (kF_none (n := n) Hno.out))
      go_wp2
      go_ret2
      exact ⟨by rw [HK.out.1, HK.out.2]; rfl, ER⟩

end Go.Proofs.Ytliddinpfgpnfaa
