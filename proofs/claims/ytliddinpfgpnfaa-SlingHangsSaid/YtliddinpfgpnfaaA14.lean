/- Contract: the points at the corners of the parts of a box on a table, as a loop is handed them. -/
import Derived.Test.YtliddinpfgpnfaaA13
import Derived.RangeFuncNested
import Derived.RangeFuncBound
import Derived.RangeFuncCalls
import Derived.RangeFuncLeaves
import Derived.Shelf.Abstract
import Derived.OwnWalkIn
import Derived.TacticsInMore
import Derived.LoopNIn
import Derived.LoopIn
namespace Go.Proofs.Ytliddinpfgpnfaa
open Go Go.RowKit Go.Sort
set_option linter.unusedSimpArgs false
set_option linter.unusedVariables false

/-- What a round that goes on keeps: all below n0, and each block of cells but some. -/
structure Kx (n0 : Nat) (bad : List Nat) (W W' : World) : Prop where
  below : Below n0 W W'
  keep : ∀ k o, W.heap[k]? = some o → o.isCells = true → k ∉ bad → W'.heap[k]? = some o

theorem Kx.refl (n0 : Nat) (bad : List Nat) (W : World) : Kx n0 bad W W := ⟨Below.refl _ _, fun _ _ h _ _ => h⟩
theorem Kx.trans {n0 : Nat} {bad : List Nat} {A B C : World} (h : Kx n0 bad A B) (k : Kx n0 bad B C) : Kx n0 bad A C :=
  ⟨h.below.trans k.below, fun i o hi ho hb => k.keep i o (h.keep i o hi ho hb) ho hb⟩
theorem Kx.of_below {n0 : Nat} {bad : List Nat} {W W' : World} (h : Below W.heap.size W W') (hn : n0 ≤ W.heap.size) : Kx n0 bad W W' :=
  ⟨h.mono hn, fun k o hk _ _ => by rw [h.block k (by rcases Nat.lt_or_ge k W.heap.size with q | q; exact q; rw [Array.getElem?_eq_none q] at hk; cases hk)]; exact hk⟩
theorem Kx.own {n0 : Nat} {bad : List Nat} {W W' : World} (h : Kx n0 bad W W') {base : Nat} {e : TypeId} {sz : Nat} {v : Value} {n : Nat} {xs : List Value} (ho : W.ownsRow base e sz v n xs) (hb : ∀ b ∈ bad, b < base) : W'.ownsRow base e sz v n xs := by
  obtain ⟨h1, h2⟩ := ho
  refine ⟨h1, h2.imp id ?_⟩
  rintro ⟨g, cap, cur, hv, hg, hh, r⟩
  exact ⟨g, cap, cur, hv, hg, h.keep g _ hh rfl (fun hm => by have := hb g hm; omega), r⟩
theorem grown_none {W W' : World} (h : Below W.heap.size W W') : W.grownBy W' none := ⟨h.os, h.tape, h.output, h.size, fun k hk _ => h.block k hk⟩

/-- A number brought into a span. -/
def cl (lo hi x : Int) : Int := max lo (min hi x)
theorem cl_in {lo hi x : Int} (h : lo ≤ hi) : lo ≤ cl lo hi x ∧ cl lo hi x ≤ hi := by unfold cl; omega
theorem cl_id {lo hi x : Int} (h : lo ≤ x) (h' : x ≤ hi) : cl lo hi x = x := by unfold cl; omega

/-- A point of a table, with its value. -/
def ptV (X Y : List Int) (V : List (List Int)) (x y : Int) : Value := .agg #[.int .i64 x, .int .i64 y, .int .i64 (atN X Y V x y), .int .i64 (atD X Y x y)]
def encs (X Y : List Int) (V : List (List Int)) (p : Int × Int) : Array Value := #[ptV X Y V (cl (hd X) (la X) p.1) (cl (hd Y) (la Y) p.2)]

/-- The points of two rows of stops. -/
def grid (xs ys : List Int) : List (Int × Int) := xs.flatMap fun x => ys.map fun y => (x, y)
theorem grid_snoc (xs ys : List Int) (x : Int) : grid (xs ++ [x]) ys = grid xs ys ++ ys.map fun y => (x, y) := by simp [grid]

theorem grid_len (xs ys : List Int) : (grid xs ys).length = xs.length * ys.length := by
  induction xs with
  | nil => simp [grid]
  | cons x xs ih => simp only [grid, List.flatMap_cons, List.length_append, List.length_map, List.length_cons] at *; rw [ih, Nat.add_mul]; omega

theorem stops_in {zs : List Int} {lo hi s : Int} (h : lo ≤ hi) (hs : s ∈ stopsL zs lo hi) : lo ≤ s ∧ s ≤ hi := by
  simp only [stopsL, List.cons_append, List.mem_cons, List.mem_append, List.mem_filter, inB, Bool.and_eq_true, decide_eq_true_eq] at hs
  rcases hs with rfl | ⟨_, h1, h2⟩ | h1
  · omega
  · omega
  · split at h1
    · simp at h1; omega
    · simp at h1

/-- What a round of the points finds. -/
structure CoAt (vX vY vV : Value) (X Y : List Int) (V : List (List Int)) (xl xh yl yh : Int) (w0 : World) (T SX SY : Nat) (w : World) : Prop where
  below : Below w0.heap.size w0 w
  bT : w.heap[T]? = some (.cells #[vX, vY, vV] 40 (0, 0))
  bX : w.heap[SX]? = some (.cells #[.int .i64 xl, .int .i64 xh] 27 (0, 0))
  bY : w.heap[SY]? = some (.cells #[.int .i64 yl, .int .i64 yh] 27 (0, 0))

theorem CoAt.kx {vX vY vV : Value} {X Y : List Int} {V : List (List Int)} {xl xh yl yh : Int} {w0 : World} {T SX SY : Nat} {w w' : World} {bad : List Nat} (h : CoAt vX vY vV X Y V xl xh yl yh w0 T SX SY w) (k : Kx w0.heap.size bad w w')
    (hT : T ∉ bad) (hX : SX ∉ bad) (hY : SY ∉ bad) : CoAt vX vY vV X Y V xl xh yl yh w0 T SX SY w' :=
  ⟨h.below.trans k.below, k.keep _ _ h.bT rfl hT, k.keep _ _ h.bX rfl hX, k.keep _ _ h.bY rfl hY⟩

set_option maxRecDepth 100000 in
set_option maxHeartbeats 6400000 in
theorem corners_in (n : Nat) (hn : 1 ≤ n) (vX vY vV : Value) (X Y : List Int) (V : List (List Int)) (xl xh yl yh : Int) (w0 : World) (T SX SY : Nat) (bad : List Nat) (hR : RT w0 vX vY vV X Y V) (hE : tableE X Y V = 0)
    (hx : xl ≤ xh) (hy : yl ≤ yh) (hlx : liesB X xl xh = true) (hly : liesB Y yl yh = true) (hbT : T ∉ bad) (hbX : SX ∉ bad) (hbY : SY ∉ bad) (l : Nat) (J Jx : List (Int × Int) → World → Prop) (W : World) (hbw : ∀ b ∈ bad, b < W.heap.size)
    (hJ : AbidesFrom W.heap.size J)
    (hY : ∀ pre x W1, J pre W1 → pre.length < (stopsL X xl xh).length * (stopsL Y yl yh).length → YieldAt Fence.wide (n - 1) Try.prog l (encs X Y V x) W1 fun e W' =>
      (e = .returned (.bool true) ∧ J (pre ++ [x]) W' ∧ Kx w0.heap.size bad W1 W') ∨ (e = .returned (.bool false) ∧ Jx (pre ++ [x]) W'))
    (hC : CoAt vX vY vV X Y V xl xh yl yh w0 T SX SY W) (h0 : J [] W) :
    CallsIn Fence.wide n Try.prog 104 #[.func (.yield l) #[] #[], .pointer (some ⟨T, 0, none⟩), .pointer (some ⟨SX, 0, none⟩), .pointer (some ⟨SY, 0, none⟩)] W fun e W' => (∃ v, e = .returned v) ∧
      ((∃ ys, ys = grid (stopsL X xl xh) (stopsL Y yl yh) ∧ J ys W') ∨ (∃ pre, Jx pre W')) := by
  obtain ⟨hd1, hd2⟩ := by simpa [liesB] using hlx
  obtain ⟨hd3, hd4⟩ := by simpa [liesB] using hly
  have t0 := (blk_cells hC.bT 0).1
  have t1 := (blk_cells hC.bX 0).1
  have t2 := (blk_cells hC.bX 1).1
  simp at t0 t1 t2
  have HY := Lib.hid hY
  have HJ := Lib.hid hJ
  clear hY hJ
  refine callsIn_of_wp Try.func104 rfl trivial ?_ rfl
  simp only [Try.ntmps104, List.size_toArray, List.length_cons, List.length_nil, Nat.reduceAdd, Nat.reduceSub, Array.replicate_succ, Array.replicate_zero, List.push_toArray, List.append_toArray, List.nil_append, List.cons_append]
  obtain ⟨aX, aY, _, _⟩ := tableE_zero hE
  have lX := axB_len aX
  have lY := axB_len aY
  obtain ⟨xs, hxs⟩ : ∃ xs, xs = stopsL X xl xh := ⟨_, rfl⟩
  obtain ⟨ys, hys⟩ : ∃ ys, ys = stopsL Y yl yh := ⟨_, rfl⟩
  have hxin : ∀ x ∈ xs, hd X ≤ x ∧ x ≤ la X := fun x h => by rw [hxs] at h; have := stops_in hx h; omega
  have hyin : ∀ y ∈ ys, hd Y ≤ y ∧ y ≤ la Y := fun y h => by rw [hys] at h; have := stops_in hy h; omega
  have cX := spans_stops vX X xl xh W (hR.x.below hC.below) (by omega)
  have cY := fun (w1 : World) (h : Below w0.heap.size w0 w1) => spans_stops vY Y yl yh w1 (hR.y.below h) (by omega)
  rw [← hxs] at cX HY ⊢
  rw [← hys] at cY HY ⊢
  have lxs : xs.length ≤ 20 := by rw [hxs, stopsL]; have := List.length_filter_le (inB xl xh) X; split <;> simp <;> omega
  have lys : ys.length ≤ 20 := by rw [hys, stopsL]; have := List.length_filter_le (inB yl yh) Y; split <;> simp <;> omega
  have Hxin := Lib.hid hxin
  have Hyin := Lib.hid hyin
  have CY := Lib.hid cY
  have CX := Lib.hid cX
  clear hxs hys hxin hyin cY cX
  gi_wp2_with fail
  refine ⟨trivial, (callsIn_wide.2 CX.out).mono ?_⟩
  rintro e w1 ⟨v1, rfl, hri, hb, ho⟩
  have hJ1 := HJ.out [] W w1 none h0 (grown_none hb) (fun r e => by cases e)
  have hC1 := hC.kx (Kx.of_below hb (hC.below.size)) hbT hbX hbY
  have hbs := hb.size
  obtain ⟨A1, c1, rfl, hc1⟩ := hri.form
  clear hri hb h0 t0 t1 t2
  gi_wp2_with fail
  gi_loopw [14] (fun s14 wr => ∃ i : Nat, s14 = .int .i64 i ∧ i ≤ xs.length ∧ J (grid (xs.take i) ys) wr ∧ CoAt vX vY vV X Y V xl xh yl yh w0 T SX SY wr ∧ wr.ownsRow (W.heap.size + 1) 3 1 (.slice A1 xs.length c1) xs.length (ints xs) ∧ W.heap.size ≤ wr.heap.size) (fun s14 _ => xs.length - (intOf s14).toNat)
  case atStart => exact ⟨0, rfl, by omega, hJ1, hC1, ho, hbs⟩
  case round =>
    obtain ⟨i, rfl, hi, hJi, hCi, hoi, hsz⟩ := hrel
    by_cases hlt : i < xs.length
    · obtain ⟨b, o, c', x, e, hbx, hgx, hcell⟩ := RI.at (RS.of_own hoi) hlt
      cases e
      have s1 := (blk_cells hCi.bT 1).1
      have s2 := (blk_cells hCi.bY 0).1
      have s3 := (blk_cells hCi.bY 1).1
      simp at s1 s2 s3
      have hxr := Hxin.out x (List.mem_of_getElem? hgx)
      have Hgx := Lib.hid (show xs.take (i + 1) = xs.take i ++ [x] by rw [List.take_add_one, hgx]; rfl)
      clear hgx
      gi_wp2_with fail
      refine ⟨trivial, (callsIn_wide.2 (CY.out wr hCi.below)).mono ?_⟩
      rintro e w2 ⟨v2, rfl, hri2, hb2, ho2⟩
      have hJ2 := HJ.out _ wr w2 none hJi (grown_none hb2) (fun r e => by cases e)
      have hC2 := hCi.kx (Kx.of_below hb2 (hCi.below.size)) hbT hbX hbY
      have hx2 := own_below hoi hb2
      have hbs2 := hb2.size
      obtain ⟨A2, c2, rfl, hc2⟩ := hri2.form
      have hsz2 : W.heap.size + 1 ≤ wr.heap.size + 1 := by omega
      clear hri2 hb2 hJi hCi hoi s1 s2 s3 hcell
      gi_wp2_with fail
      gi_loopw [23] (fun s23 wq => ∃ k : Nat, s23 = .int .i64 k ∧ k ≤ ys.length ∧ J (grid (xs.take i) ys ++ (ys.take k).map fun y => (x, y)) wq ∧ CoAt vX vY vV X Y V xl xh yl yh w0 T SX SY wq ∧ wq.ownsRow (W.heap.size + 1) 3 1 (.slice (some ⟨b, o, none⟩) xs.length c1) xs.length (ints xs) ∧ wq.ownsRow (wr.heap.size + 1) 3 1 (.slice A2 ys.length c2) ys.length (ints ys) ∧ W.heap.size ≤ wq.heap.size) (fun s23 _ => ys.length - (intOf s23).toNat)
      case atStart => exact ⟨0, rfl, by omega, by simpa using hJ2, hC2, hx2, ho2, by omega⟩
      case round =>
        obtain ⟨k, rfl, hk, hJk, hCk, hok, hoy, hsq⟩ := hrel
        by_cases hkt : k < ys.length
        · obtain ⟨b', o', c', y, e, hby, hgy, hcelly⟩ := RI.at (RS.of_own hoy) hkt
          cases e
          have s1 := (blk_cells hCk.bT 0).1
          have s2 := (blk_cells hCk.bT 1).1
          have s3 := (blk_cells hCk.bT 2).1
          simp at s1 s2 s3
          have hyr := Hyin.out y (List.mem_of_getElem? hgy)
          have Hgy := Lib.hid (show ys.take (k + 1) = ys.take k ++ [y] by rw [List.take_add_one, hgy]; rfl)
          clear hgy
          gi_wp2_with fail
          refine ⟨trivial, (callsIn_wide.2 (spans_at vX vY vV X Y V x y _ (hR.below hCk.below) hE hxr.1 hxr.2 hyr.1 hyr.2)).mono ?_⟩
          rintro e w4 ⟨rfl, hb4⟩
          have hJ4 := HJ.out _ _ w4 none hJk (grown_none hb4) (fun r e => by cases e)
          have hC4 := hCk.kx (Kx.of_below hb4 (hCk.below.size)) hbT hbX hbY
          have hx4 := own_below hok hb4
          have hy4 := own_below hoy hb4
          have hbs4 := hb4.size
          have hlen : (grid (xs.take i) ys ++ (ys.take k).map fun y => (x, y)).length < xs.length * ys.length := by
            have e1 : (grid (xs.take i) ys).length = i * ys.length := by
              rw [grid_len, List.length_take, Nat.min_eq_left (by omega)]
            rw [List.length_append, e1, List.length_map, List.length_take, Nat.min_eq_left (by omega)]
            have e2 : (i + 1) * ys.length ≤ xs.length * ys.length := Nat.mul_le_mul_right _ hlt
            rw [Nat.add_mul] at e2
            omega
          obtain ⟨fn, tmps, assign, body, hyl, hRo⟩ := HY.out _ (x, y) w4 hJ4 hlen
          rw [encs, ptV, cl_id hxr.1 hxr.2, cl_id hyr.1 hyr.2] at hyl
          clear hb4 hJk hCk hok hoy s1 s2 s3 hcelly hJ4
          have Hbw := Lib.hid hbw
          gi_wp2_with fail
          refine hRo.mono ?_
          rintro e W5 (⟨rfl, hJ5, hk5⟩ | ⟨rfl, hJx5⟩)
          · have hC5 := hC4.kx hk5 hbT hbX hbY
            have hx5 := hk5.own hx4 (fun q hq => by have := Hbw.out q hq; omega)
            have hy5 := hk5.own hy4 (fun q hq => by have := Hbw.out q hq; omega)
            have hs5 := hk5.below.size
            gi_wp2
            go_roundw
            case rel => exact ⟨k + 1, by go_num, by omega, by rw [Hgy.out]; simpa [List.append_assoc] using hJ5, hC5, hx5, hy5, by omega⟩
            case measure => simp [intOf]; omega
          · gi_wp2
            refine bodyPost_ret (results_none rfl _ _ _) rfl ?_
            exact ⟨⟨_, rfl⟩, .inr ⟨_, hJx5⟩⟩
        · obtain rfl : k = ys.length := by omega
          gi_wp2
          go_roundw
          case rel => exact ⟨i + 1, by go_num, by omega, by rw [Hgx.out, grid_snoc]; simpa using hJk, hCk, hok, by omega⟩
          case measure => simp [intOf]; omega
    · obtain rfl : i = xs.length := by omega
      gi_wp2
      refine bodyPost_end (results_none rfl _ _ _) rfl ?_
      exact ⟨⟨_, rfl⟩, .inl ⟨_, rfl, by simpa using hJi⟩⟩

end Go.Proofs.Ytliddinpfgpnfaa
