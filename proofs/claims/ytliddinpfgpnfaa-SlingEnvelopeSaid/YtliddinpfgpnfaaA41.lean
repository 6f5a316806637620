/- Contract: Witness. -/
import Derived.Test.YtliddinpfgpnfaaA40
namespace Go.Proofs.Ytliddinpfgpnfaa
open Go Go.RowKit Go.Sort
set_option linter.unusedSimpArgs false
set_option linter.unusedVariables false

/-- Where Witness stands: W0 is the world of its call, W the world behind parts, S the block of the start. -/
structure WiAt (W0 W : World) (S : Nat) (c0 c1 : Int) (acc : List Int) (v : Value) (w : World) : Prop where
  below : Below W0.heap.size W0 w
  keep : ∀ k, k < W.heap.size → k ≠ S → w.heap[k]? = W.heap[k]?
  bl : W.heap.size ≤ w.heap.size
  hS : W0.heap.size ≤ S ∧ S < W.heap.size
  blk : w.heap[S]? = some (.cells #[.int .i64 c0, .int .i64 c1] 24 (0, 0))
  own : w.ownsRow W.heap.size 3 1 v acc.length (ints acc)

theorem WiAt.quiet {W0 W : World} {S : Nat} {c0 c1 : Int} {acc : List Int} {v : Value} {w w' : World} (h : WiAt W0 W S c0 c1 acc v w) (hb : Below w.heap.size w w') : WiAt W0 W S c0 c1 acc v w' :=
  ⟨h.below.trans (hb.mono h.below.size), fun k hk hn => (hb.block k (by have := h.bl; omega)).trans (h.keep k hk hn), by have := hb.size; have := h.bl; omega, h.hS, (hb.block S (by have := h.bl; have := h.hS.2; omega)).trans h.blk, own_below h.own hb⟩

theorem WiAt.set {W0 W : World} {S : Nat} {c0 c1 : Int} {acc : List Int} {v : Value} {w : World} (h : WiAt W0 W S c0 c1 acc v w) (x : Int) :
    WiAt W0 W S x c1 acc v (w.setCell ⟨S, 0, none⟩ (.int .i64 x)) ∧ WiAt W0 W S c0 x acc v (w.setCell ⟨S, 1, none⟩ (.int .i64 x)) := by
  have hown := h.own.lt
  have hS := h.hS
  have key : ∀ j u, Below W0.heap.size W0 (w.setCell ⟨S, j, none⟩ u) ∧ (∀ k, k < W.heap.size → k ≠ S → (w.setCell ⟨S, j, none⟩ u).heap[k]? = W.heap[k]?) ∧ W.heap.size ≤ (w.setCell ⟨S, j, none⟩ u).heap.size ∧ (w.setCell ⟨S, j, none⟩ u).ownsRow W.heap.size 3 1 v acc.length (ints acc) := by
    intro j u
    refine ⟨h.below.setCell (by show W0.heap.size ≤ S; omega) _, fun k hk hn => (heap_setCell_ne hn _).trans (h.keep k hk hn), by simp [World.setCell]; exact h.bl, ?_⟩
    obtain ⟨h1, h2⟩ := h.own
    refine ⟨h1, h2.imp id ?_⟩
    rintro ⟨g, cap, cur, hv, hg, hh, r⟩
    exact ⟨g, cap, cur, hv, hg, (heap_setCell_ne (by omega) _).trans hh, r⟩
  obtain ⟨a1, a2, a3, a4⟩ := key 0 (.int .i64 x)
  obtain ⟨b1, b2, b3, b4⟩ := key 1 (.int .i64 x)
  exact ⟨⟨a1, a2, a3, hS, by rw [heap_setCell_at h.blk]; rfl, a4⟩, ⟨b1, b2, b3, hS, by rw [heap_setCell_at h.blk]; rfl, b4⟩⟩

theorem WiAt.next {W0 W : World} {S : Nat} {c0 c1 : Int} {acc : List Int} {v v' : Value} {w w' : World} (h : WiAt W0 W S c0 c1 acc v w) (x : Int) (o : Obj) (hg : (w.alloc o).grownBy w' v.ownBlock)
    (ho : w'.ownsRow W.heap.size 3 1 v' (acc.length + 1) (ints acc ++ [.int .i64 x])) : WiAt W0 W S c0 c1 (acc ++ [x]) v' w' := by
  have hown := h.own.lt
  have hS := h.hS
  have hbl := h.bl
  have hz := h.below.size
  have old : ∀ k, k < W.heap.size → w'.heap[k]? = w.heap[k]? := fun k hk => by
    rw [hg.block k (by simp; omega) (fun e => by have := hown k e.symm; omega), Below.heap_alloc _ _ _ (by omega)]
  refine ⟨(h.below.alloc hz o).grown hg (by simp; omega) (fun j hj => by have := hown j hj; omega), fun k hk hn => (old k hk).trans (h.keep k hk hn), by have := hg.size; simp at this; omega, hS, (old S hS.2).trans h.blk, ?_⟩
  rw [ints_snoc]
  simpa using ho

theorem two_at {w : World} {b : Nat} {u v : Value} {T : TypeId} (h : w.heap[b]? = some (.cells #[u, v] T (0, 0))) {k : Nat} (hk : k < 2) : ∃ x, w.cell? ⟨b, k, none⟩ = some x ∧ w.frozen? ⟨b, k, none⟩ = false := by
  match k, hk with
  | 0, _ => exact ⟨u, (blk_cells h 0).1, (blk_cells h 0).2⟩
  | 1, _ => exact ⟨v, (blk_cells h 1).1, (blk_cells h 1).2⟩

def witS (num damp D : Int) (bs : List (Int × Int)) (g : Int × Int) (n : Int) (high : Bool) : Int × Int :=
  if setsE num damp D bs g n [] = 0 then (pickN num damp D (bs.getD 0 (0, 0)) (bs.getD 1 (0, 0)) g n.toNat high 0, pickN num damp D (bs.getD 0 (0, 0)) (bs.getD 1 (0, 0)) g n.toNat high 1) else (0, 0)
def witR (num damp D : Int) (bs : List (Int × Int)) (g : Int × Int) (n : Int) (high : Bool) : List Int :=
  if setsE num damp D bs g n [] = 0 then rowN num damp D (bs.getD 0 (0, 0)) (bs.getD 1 (0, 0)) g n.toNat high else []

def WitPost (num damp D : Int) (bs : List (Int × Int)) (g : Int × Int) (n : Int) (high : Bool) (w : World) (e : Ending) (w' : World) : Prop :=
  ∃ vr, e = .returned (.tuple #[pairV (witS num damp D bs g n high), vr, .int .i64 (setsE num damp D bs g n [])]) ∧ Below w.heap.size w w' ∧ RI w' vr (witR num damp D bs g n high)

def wi0 (x : Int) (k : Nat) : Int := if k = 0 then 0 else x
def wi1 (x : Int) (k : Nat) : Int := if k ≤ 1 then 0 else x

theorem wi_step {W0 W : World} {S : Nat} {f : Nat → Int} {l : List Int} {v : Value} {w : World} {k : Nat} (h : WiAt W0 W S (wi0 (f 0) k) (wi1 (f 1) k) (l.take (k - 2)) v w) (hk : k < 2) :
    WiAt W0 W S (wi0 (f 0) (k + 1)) (wi1 (f 1) (k + 1)) (l.take (k + 1 - 2)) v (w.setCell ⟨S, k, none⟩ (.int .i64 (f k))) := by
  match k, hk with
  | 0, _ => exact (h.set (f 0)).1
  | 1, _ => exact (h.set (f 1)).2

theorem wit_post {num damp D : Int} {bs : List (Int × Int)} {g : Int × Int} {n : Int} {high : Bool} {w : World} {e : Ending} {w' : World} {vr : Value} {l : List Int} (h3 : RI w' vr l)
    (h1 : e = .returned (.tuple #[pairV (witS num damp D bs g n high), vr, .int .i64 (setsE num damp D bs g n [])])) (h2 : Below w.heap.size w w') (h4 : witR num damp D bs g n high = l) : WitPost num damp D bs g n high w e w' :=
  ⟨vr, h1, h2, by rw [h4]; exact h3⟩

theorem rowN_at {num damp D : Int} {b0 b1 g : Int × Int} {n t : Nat} {high : Bool} (h : t < n) : (rowN num damp D b0 b1 g n high)[t]? = some (pickN num damp D b0 b1 g n high (t + 2)) := by simp [rowN, h]

set_option maxRecDepth 100000 in
set_option maxHeartbeats 6400000 in
theorem sling_Witness (num damp D : Int) (vb : Value) (bs : List (Int × Int)) (gl gh n : Int) (high : Bool) (w : World) (hR : RP w vb bs) (hl : bs.length ≤ 1000000000000000000) :
    Calls Try.prog 31 #[.agg #[.int .i64 num, .int .i64 damp, .int .i64 D], vb, .agg #[.int .i64 gl, .int .i64 gh], .int .i64 n, .bool high] w (WitPost num damp D bs (gl, gh) n high w) := by
  obtain ⟨A, c, rfl, hc⟩ := hR.form
  obtain ⟨i0, hi0, hz0, hz1, hz2⟩ := info_parts info3
  have HN := fun (W : World) (hW : Below w.heap.size w W) => sling_newSet num damp D (.slice A bs.length c) bs gl gh n (.slice none 0 0) [] W (hR.below hW) hl (RS.nil _ _) (by simp)
  have B3 : ∀ o1 o2 o3, Below w.heap.size w (((w.alloc o1).alloc o2).alloc o3) := fun o1 o2 o3 => (((Below.refl _ _).alloc (Nat.le_refl _) _).alloc (by simp) _).alloc (by simp; omega) _
  by_cases hE : setsE num damp D bs (gl, gh) n [] = 0
  · have HE := Lib.hid hE
    clear hE
    obtain ⟨l0, h0, l1, h1, m, hr⟩ := sets_zero HE.out
    obtain ⟨rfl, rfl, hm, hok, hS, _, _, _, _, _, _, hlim⟩ := hr
    have HW := Lib.hid (show witS num damp D [(l0, h0), (l1, h1)] (gl, gh) m high = (pickN num damp D (l0, h0) (l1, h1) (gl, gh) m high 0, pickN num damp D (l0, h0) (l1, h1) (gl, gh) m high 1) ∧ witR num damp D [(l0, h0), (l1, h1)] (gl, gh) m high = rowN num damp D (l0, h0) (l1, h1) (gl, gh) m high by
      rw [witS, witR, if_pos HE.out, if_pos HE.out]; exact ⟨rfl, rfl⟩)
    go_enter Try.func31, Try.ntmps31
    go_wp2_with fail
    refine (HN _ (B3 _ _ _)).mono ?_
    rintro e w1 ⟨p, rfl, hb1, hp⟩
    obtain ⟨L, rfl, hL1, hblk⟩ := hp HE.out
    rw [HE.out]
    have E1 := (B3 _ _ _).trans (hb1.mono (by simp; omega))
    have T2 := (hb1.block (w.heap.size + 1 + 1) (by simp)).trans (heap3 w _ _ _).2
    have hL2 : w.heap.size + 1 + 1 < L := by simp at hL1; omega
    have v1 : w.heap.size + 1 + 1 < w1.heap.size := hp_lt T2
    have hbL := hp_lt hblk
    have HP := sling_parts L num damp D gl gh (.slice A 2 c) m w1 hblk hok hm
    have Hblk := Lib.hid hblk
    have HT2 := Lib.hid T2
    clear hblk hp hb1 hL1 T2
    go_wp2_with fail
    refine HP.mono ?_
    rintro e w2 ⟨vo, rfl, E2, hvo⟩
    have HVO := Lib.hid hvo
    obtain ⟨Av, cv, rfl, hcv⟩ := RI.formN (RS.of_own hvo) (partsL_len num damp D m)
    clear hvo HP
    have hini : WiAt w w2 (w.heap.size + 1 + 1) 0 0 [] (.slice none 0 0) w2 := ⟨E1.trans (E2.mono E1.size), fun _ _ _ => rfl, Nat.le_refl _, ⟨by omega, by have := E2.size; omega⟩, (E2.block _ v1).trans HT2.out, World.ownsRow_nil _ _ _ _⟩
    go_wp2_with fail
    go_loopw [11, 39] (fun s11 s39 wr => ∃ k : Nat, s39 = .int .i64 k ∧ k ≤ m + 2 ∧ WiAt w w2 (w.heap.size + 1 + 1) (wi0 (pickN num damp D (l0, h0) (l1, h1) (gl, gh) m high 0) k) (wi1 (pickN num damp D (l0, h0) (l1, h1) (gl, gh) m high 1) k) ((rowN num damp D (l0, h0) (l1, h1) (gl, gh) m high).take (k - 2)) s11 wr) (fun _ s39 _ => m + 2 - (intOf s39).toNat)
    case atStart => exact ⟨0, rfl, by omega, hini⟩
    case round =>
      obtain ⟨k, rfl, hk, hst⟩ := hrel
      have Hst := Lib.hid hst
      clear hst
      have ER := Hst.out.below
      have hbw := Hst.out.bl
      have hzw := E2.size
      obtain ⟨x0, x1, y0, y1⟩ := two_cells Hst.out.blk
      have u1 := hp_lt Hst.out.blk
      by_cases hkn : k < m + 2
      · have hvr : RI wr (.slice Av (m + 2) cv) (partsL num damp D m) := RS.of_own (own_heap HVO.out (fun g hg => by
          have h := own_lt HVO.out hg
          exact Hst.out.keep g h.2 (by omega)))
        obtain ⟨bv, ov, cv', e, hbv, hcell⟩ := hvr.atN (partsL_len num damp D m) (partsL_at hkn)
        cases e
        clear hvr
        have i1 : (k : Int) < (m : Int) + 2 := by omega
        have i2 : (0 : Int) ≤ (k : Int) := by omega
        have hLr := (Hst.out.keep L (by omega) (by omega)).trans ((E2.block L hbL).trans Hblk.out)
        have HC := sling_span L num damp D gl gh l0 h0 l1 h1 (.slice A 2 c) k wr hLr (hR.below ER)
        have HPK := Lib.hid (show pickN num damp D (l0, h0) (l1, h1) (gl, gh) m high k = endV (partN num damp D m k) (spanAt (l0, h0) (l1, h1) (gl, gh) k).1 (spanAt (l0, h0) (l1, h1) (gl, gh) k).2 high from rfl)
        clear hLr
        generalize spanAt (l0, h0) (l1, h1) (gl, gh) k = sp at HC HPK
        generalize partN num damp D m k = P at hcell HPK
        obtain ⟨sl, sh⟩ := sp
        have HEn := fun W => sling_end P sl sh high W
        replace HPK := HPK.out
        dsimp only at HPK
        simp only [pairV] at HC
        rw [← HPK] at HEn
        clear HPK
        rcases Nat.lt_or_ge k 2 with h2 | h2
        · have d2 : (k : Int) < 2 := by omega
          go_wp2_with (first
            | (go_at_call 73; (with_reducible refine HC.mono ?_); rintro e w3 ⟨rfl, hb3⟩)
            | (go_at_call 72; (with_reducible refine (HEn _).mono ?_); rintro e w4 ⟨rfl, hb4⟩; have E4 := hb3.trans (hb4.mono hb3.size); have H4 := Lib.hid (Hst.out.quiet E4); clear x0 x1 y0 y1; obtain ⟨x0, x1, y0, y1⟩ := two_cells H4.out.blk; have u4 := hp_lt H4.out.blk; obtain ⟨xv, xk, yk⟩ := two_at H4.out.blk h2; clear x0 x1 y0 y1))
          go_roundw
          case rel =>
            refine ⟨k + 1, by go_num, by omega, ?_⟩
            exact wi_step (f := pickN num damp D (l0, h0) (l1, h1) (gl, gh) m high) H4.out h2
          case measure => simp [intOf]; omega
        · have d2 : ¬ (k : Int) < 2 := by omega
          have hx := rowN_at (num := num) (damp := damp) (D := D) (b0 := (l0, h0)) (b1 := (l1, h1)) (g := (gl, gh)) (high := high) (show k - 2 < m by omega)
          rw [show k - 2 + 2 = k by omega] at hx
          have HX := Lib.hid (take_next hx)
          have hkl := Lib.hid (show ((rowN num damp D (l0, h0) (l1, h1) (gl, gh) m high).take (k - 2)).length = k - 2 by rw [List.length_take, rowN_len]; omega)
          clear hx
          obtain ⟨pk, hpk⟩ : ∃ z, z = pickN num damp D (l0, h0) (l1, h1) (gl, gh) m high k := ⟨_, rfl⟩
          rw [← hpk] at HEn HX
          clear hpk
          go_wp2_with (first
            | (go_at_call 73; (with_reducible refine HC.mono ?_); rintro e w3 ⟨rfl, hb3⟩)
            | (go_at_call 72; (with_reducible refine (HEn _).mono ?_); rintro e w4 ⟨rfl, hb4⟩; have E4 := hb3.trans (hb4.mono hb3.size); have H4 := Lib.hid (Hst.out.quiet E4); have HO4 := Lib.hid (by have h := H4.out.own; rw [hkl.out] at h; exact h); clear x0 x1 y0 y1)
            | (at_builtin; refine wpList_append_own _ rfl _ _ 25 rfl w2.heap.size 3 i0 (.int .i64 0) 1 8 Try.underlying25 hi0 hz0 hz1 hz2 rfl (by decide) _ (k - 2) _ rfl (HO4.out.alloc _) ⟨w4.heap.size, 0, none⟩ 1 1 [.int .i64 pk] rfl rfl ?c1 ?c2 ?c3 ?c4 ?c5 ?_))
          case c1 => exact cell_one w4 _ 3
          case c2 => intro u hu; simp at hu; subst hu; rfl
          case c3 => unfold maxLen; omega
          case c4 => omega
          case c5 => have := H4.out.bl; simp; omega
          intro v6 w6 ho6 hg6 _
          have hn6 := Lib.hid (H4.out.next pk _ hg6 (by rw [hkl.out]; exact ho6))
          clear ho6 hg6
          go_wp2
          go_roundw
          case rel =>
            refine ⟨k + 1, by go_num, by omega, ?_⟩
            have h := hn6.out
            rw [← HX.out] at h
            rw [show k + 1 - 2 = k - 2 + 1 by omega]
            have e0 : wi0 (pickN num damp D (l0, h0) (l1, h1) (gl, gh) m high 0) (k + 1) = wi0 (pickN num damp D (l0, h0) (l1, h1) (gl, gh) m high 0) k := by rw [wi0, wi0, if_neg (by omega), if_neg (by omega)]
            have e1 : wi1 (pickN num damp D (l0, h0) (l1, h1) (gl, gh) m high 1) (k + 1) = wi1 (pickN num damp D (l0, h0) (l1, h1) (gl, gh) m high 1) k := by rw [wi1, wi1, if_neg (by omega), if_neg (by omega)]
            rw [e0, e1]
            exact h
          case measure => simp [intOf]; omega
      · obtain rfl : k = m + 2 := by omega
        have HF := Lib.hid (show wi0 (pickN num damp D (l0, h0) (l1, h1) (gl, gh) m high 0) (m + 2) = pickN num damp D (l0, h0) (l1, h1) (gl, gh) m high 0 ∧ wi1 (pickN num damp D (l0, h0) (l1, h1) (gl, gh) m high 1) (m + 2) = pickN num damp D (l0, h0) (l1, h1) (gl, gh) m high 1 from ⟨by rw [wi0, if_neg (by omega)], by rw [wi1, if_neg (by omega)]⟩)
        rw [HF.out.1] at x0
        rw [HF.out.2] at x1
        generalize pickN num damp D (l0, h0) (l1, h1) (gl, gh) m high 0 = p0 at *
        generalize pickN num damp D (l0, h0) (l1, h1) (gl, gh) m high 1 = p1 at *
        have HR3 := Lib.hid (show RI _ _ ((rowN num damp D (l0, h0) (l1, h1) (gl, gh) m high).take (m + 2 - 2)) from RS.of_own (((Hst.out.set p0).1).set p1).2.own)
        rw [show m + 2 - 2 = m by omega, List.take_of_length_le (by rw [rowN_len]; exact Nat.le_refl _)] at HR3
        go_wp2_with fail
        refine bodyPost_ret (by simp [results, Try.results31, go_sem, x0, x1, u1]; rfl) rfl (wit_post HR3.out (by rw [HW.out.1, HE.out]; rfl) ?_ HW.out.2)
        exact (ER.setCell (p := ⟨w.heap.size + 1 + 1, 0, none⟩) (by dsimp only; omega) _).setCell (p := ⟨w.heap.size + 1 + 1, 1, none⟩) (by dsimp only; omega) _
  · have HE := Lib.hid (show witS num damp D bs (gl, gh) n high = (0, 0) ∧ witR num damp D bs (gl, gh) n high = [] by rw [witS, witR, if_neg hE, if_neg hE]; exact ⟨rfl, rfl⟩)
    have e1 : (setsE num damp D bs (gl, gh) n [] != 0) = true := by simpa using hE
    clear hE
    go_enter Try.func31, Try.ntmps31
    go_wp2_with fail
    refine (HN _ (B3 _ _ _)).mono ?_
    rintro e w1 ⟨p, rfl, hb1, hp⟩
    have E1 := (B3 _ _ _).trans (hb1.mono (by simp; omega))
    have T2 := (hb1.block (w.heap.size + 1 + 1) (by simp)).trans (heap3 w _ _ _).2
    have v1 : w.heap.size + 1 + 1 < w1.heap.size := hp_lt T2
    obtain ⟨x0, x1, y0, y1⟩ := two_cells T2
    clear hb1 hp T2
    go_wp2_with fail
    refine bodyPost_ret (v := .tuple #[.agg #[.int .i64 0, .int .i64 0], .slice none 0 0, .int .i64 (setsE num damp D bs (gl, gh) n [])]) (by simp [results, Try.results31, go_sem, x0, x1, v1]) rfl (wit_post (vr := .slice none 0 0) (l := []) (RS.nil _ _) (by rw [HE.out.1]; rfl) ?_ HE.out.2)
    exact (E1.setCell (p := ⟨w.heap.size + 1 + 1, 0, none⟩) (by dsimp only; omega) _).setCell (p := ⟨w.heap.size + 1 + 1, 1, none⟩) (by dsimp only; omega) _

end Go.Proofs.Ytliddinpfgpnfaa
