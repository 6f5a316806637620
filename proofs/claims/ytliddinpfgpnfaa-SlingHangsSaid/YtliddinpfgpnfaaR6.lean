/- Contracts of the specification: the bound of a box on a table. -/
import Derived.Test.YtliddinpfgpnfaaR5
import Derived.Deep.RegionHeld3
import Derived.Deep.CutRange
import Derived.Outline
namespace Go.Proofs.Ytliddinpfgpnfaa
open Go Go.RowKit Go.Sort
set_option linter.unusedSimpArgs false
set_option linter.unusedVariables false

def mnI (a b : Int) : Int := if b < a then b else a
def mxI (a b : Int) : Int := if a < b then b else a
/-- The whole part, and the number rounded up, at a point, by the specification's knots. -/
def flR (X Y : List Int) (V : List (List Int)) (g : Int × Int) : Int := fv X Y V (cellR X g.1) (cellR Y g.2) g.1 g.2
def upR (X Y : List Int) (V : List (List Int)) (g : Int × Int) : Int := uv X Y V (cellR X g.1) (cellR Y g.2) g.1 g.2
def lowG (X Y : List Int) (V : List (List Int)) (a : Int) (l : List (Int × Int)) : Int := l.foldl (fun m g => mnI m (flR X Y V g)) a
def hiG (X Y : List Int) (V : List (List Int)) (a : Int) (l : List (Int × Int)) : Int := l.foldl (fun m g => mxI m (upR X Y V g)) a

theorem lowG_snoc (X Y : List Int) (V : List (List Int)) (a : Int) (l : List (Int × Int)) (g : Int × Int) : lowG X Y V a (l ++ [g]) = mnI (lowG X Y V a l) (flR X Y V g) := by simp [lowG]
theorem hiG_snoc (X Y : List Int) (V : List (List Int)) (a : Int) (l : List (Int × Int)) (g : Int × Int) : hiG X Y V a (l ++ [g]) = mxI (hiG X Y V a l) (upR X Y V g) := by simp [hiG]

theorem val_bounds {X Y : List Int} {V : List (List Int)} (hE : tableE X Y V = 0) {i k : Nat} {x y : Int} (hi : InC X i x) (hk : InC Y k y) :
    -1000000000000000 ≤ valN X Y V i k x y ∧ valN X Y V i k x y ≤ 1000000000000000 ∧ 1 ≤ valD X Y i k ∧ valD X Y i k ≤ 100000000 := by
  obtain ⟨aX, aY, aV, aB⟩ := tableE_zero hE
  obtain ⟨i1, i2, i3⟩ := hi
  obtain ⟨k1, k2, k3⟩ := hk
  have si := kn_step aX _ i1
  have sk := kn_step aY _ k1
  obtain ⟨hrows, hvb⟩ := table_rows aB
  have g00 := hvb i k (by omega) (by omega)
  have g01 := hvb i (k + 1) (by omega) (by omega)
  have g10 := hvb (i + 1) k (by omega) (by omega)
  have g11 := hvb (i + 1) (k + 1) (by omega) (by omega)
  have m1 := mul_bound (a := kn X (i + 1) - x) (b := kn Y (k + 1) - y) (A := 10000) (B := 10000) (by omega) (by omega) (by omega) (by omega)
  have m2 := mul_bound (a := x - kn X i) (b := kn Y (k + 1) - y) (A := 10000) (B := 10000) (by omega) (by omega) (by omega) (by omega)
  have m3 := mul_bound (a := kn X (i + 1) - x) (b := y - kn Y k) (A := 10000) (B := 10000) (by omega) (by omega) (by omega) (by omega)
  have m4 := mul_bound (a := x - kn X i) (b := y - kn Y k) (A := 10000) (B := 10000) (by omega) (by omega) (by omega) (by omega)
  have m5 := mul_bound (a := kn X (i + 1) - kn X i) (b := kn Y (k + 1) - kn Y k) (A := 10000) (B := 10000) (by omega) (by omega) (by omega) (by omega)
  have m6 := Int.mul_pos (show 0 < kn X (i + 1) - kn X i by omega) (show 0 < kn Y (k + 1) - kn Y k by omega)
  have q1 := mul_bound2 m1.1 m1.2 g00.1 g00.2
  have q2 := mul_bound2 m2.1 m2.2 g10.1 g10.2
  have q3 := mul_bound2 m3.1 m3.2 g01.1 g01.2
  have q4 := mul_bound2 m4.1 m4.2 g11.1 g11.2
  unfold valN valD
  omega

/-- What the specification computes at a point of the grid. -/
theorem ref_point {X Y : List Int} {V : List (List Int)} (hE : tableE X Y V = 0) {x y : Int} (h : OnT X Y (x, y)) :
    -1000000000000000 ≤ valN X Y V (cellR X x) (cellR Y y) x y ∧ valN X Y V (cellR X x) (cellR Y y) x y ≤ 1000000000000000 ∧ 1 ≤ valD X Y (cellR X x) (cellR Y y) ∧ valD X Y (cellR X x) (cellR Y y) ≤ 100000000 :=
  val_bounds hE (InC.cellR (tableE_zero hE).1 h.x0 h.x1) (InC.cellR (tableE_zero hE).2.1 h.y0 h.y1)

abbrev bdW (vX vY vV : Value) (xl xh yl yh : Int) (w : World) : World :=
  (((w.alloc (.cells #[vX, vY, vV] 40)).alloc (.cells #[.int .i64 xl, .int .i64 xh] 27)).alloc (.cells #[.int .i64 yl, .int .i64 yh] 27)).alloc (.cells #[.int .i64 0, .int .i64 0] 27)

theorem bdW_below (vX vY vV : Value) (xl xh yl yh : Int) (w : World) : Below w.heap.size w (bdW vX vY vV xl xh yl yh w) :=
  ((((Below.refl _ _).alloc (Nat.le_refl _) _).alloc (by simp) _).alloc (by simp; omega) _).alloc (by simp; omega) _

theorem box2224 {w wr : World} {vX vY vV : Value} {xl xh yl yh : Int} (hb : Below (w.heap.size + 1 + 1 + 1) (bdW vX vY vV xl xh yl yh w) wr) :
    (wr.cell? ⟨w.heap.size, 0, none⟩ = some vX ∧ wr.cell? ⟨w.heap.size, 1, none⟩ = some vY ∧ wr.cell? ⟨w.heap.size, 2, none⟩ = some vV) ∧
    (wr.cell? ⟨w.heap.size + 1, 0, none⟩ = some (.int .i64 xl) ∧ wr.cell? ⟨w.heap.size + 1, 1, none⟩ = some (.int .i64 xh)) ∧ (wr.cell? ⟨w.heap.size + 1 + 1, 0, none⟩ = some (.int .i64 yl) ∧ wr.cell? ⟨w.heap.size + 1 + 1, 1, none⟩ = some (.int .i64 yh)) ∧ w.heap.size + 4 ≤ wr.heap.size := by
  have hz : (bdW vX vY vV xl xh yl yh w).heap.size = w.heap.size + 4 := by simp
  have h3 : Below (w.heap.size + 1 + 1 + 1) (((w.alloc (.cells #[vX, vY, vV] 40)).alloc (.cells #[.int .i64 xl, .int .i64 xh] 27)).alloc (.cells #[.int .i64 yl, .int .i64 yh] 27)) wr :=
    ((Below.refl _ _).alloc (by simp) _).trans hb
  obtain ⟨a, b, c, _⟩ := box222 h3
  exact ⟨a, b, c, by have := hb.size; omega⟩


/-- Where the loops of bound stand: O is the block of what it computes. -/
structure BdAt (W1 : World) (O : Nat) (lo hi : Int) (wr : World) : Prop where
  below : Below O W1 wr
  blk : wr.heap[O]? = some (.cells #[.int .i64 lo, .int .i64 hi] 27 (0, 0))
  lt : O < wr.heap.size

theorem BdAt.quiet {W1 : World} {O : Nat} {lo hi : Int} {w w' : World} (h : BdAt W1 O lo hi w) (hb : Below w.heap.size w w') : BdAt W1 O lo hi w' :=
  ⟨h.below.trans (hb.mono (by have := h.lt; omega)), by rw [hb.block _ h.lt]; exact h.blk, by have := h.lt; have := hb.size; omega⟩
theorem BdAt.setLo {W1 : World} {O : Nat} {lo hi : Int} {w : World} (h : BdAt W1 O lo hi w) (u : Int) : BdAt W1 O u hi (w.setCell ⟨O, 0, none⟩ (.int .i64 u)) :=
  ⟨h.below.setCell (Nat.le_refl _) _, by rw [heap_setCell_at h.blk]; rfl, by simp [World.setCell]; exact h.lt⟩
theorem BdAt.setHi {W1 : World} {O : Nat} {lo hi : Int} {w : World} (h : BdAt W1 O lo hi w) (u : Int) : BdAt W1 O lo u (w.setCell ⟨O, 1, none⟩ (.int .i64 u)) :=
  ⟨h.below.setCell (Nat.le_refl _) _, by rw [heap_setCell_at h.blk]; rfl, by simp [World.setCell]; exact h.lt⟩

/-- The points behind i rows and k points of the next one. -/
def gridTo (xs ys : List Int) (i k : Nat) : List (Int × Int) := grid (xs.take i) ys ++ (ys.take k).map fun y => (xs.getD i 0, y)
theorem gridTo_zero (xs ys : List Int) : gridTo xs ys 0 0 = [] := by simp [gridTo, grid]
theorem gridTo_next {xs ys : List Int} {i k : Nat} {x y : Int} (hx : xs[i]? = some x) (hy : ys[k]? = some y) : gridTo xs ys i (k + 1) = gridTo xs ys i k ++ [(x, y)] := by
  simp [gridTo, List.take_add_one, hy, List.getD_eq_getElem?_getD, hx]
theorem gridTo_row {xs ys : List Int} {i k : Nat} {x : Int} (hx : xs[i]? = some x) (hk : ys.length ≤ k) : gridTo xs ys i k = gridTo xs ys (i + 1) 0 := by
  simp [gridTo, grid, List.take_add_one, hx, List.getD_eq_getElem?_getD, List.take_of_length_le hk]
theorem gridTo_all {xs ys : List Int} {i : Nat} (hi : xs.length ≤ i) : gridTo xs ys i 0 = grid xs ys := by
  simp [gridTo, List.take_of_length_le hi]

theorem bd_keep {h N : Nat} {W1 W2 : World} {v0 v1 v2 v3 v4 v5 : Value} (hb : Below N W1 W2) (hN : h + 1 + 1 < N) (c0 : W1.cell? ⟨h, 0, none⟩ = some v0) (c1 : W1.cell? ⟨h, 1, none⟩ = some v1) (c2 : W1.cell? ⟨h + 1, 0, none⟩ = some v2) (c3 : W1.cell? ⟨h + 1, 1, none⟩ = some v3) (c4 : W1.cell? ⟨h + 1 + 1, 0, none⟩ = some v4) (c5 : W1.cell? ⟨h + 1 + 1, 1, none⟩ = some v5) :
    W2.cell? ⟨h, 0, none⟩ = some v0 ∧ W2.cell? ⟨h, 1, none⟩ = some v1 ∧ W2.cell? ⟨h + 1, 0, none⟩ = some v2 ∧ W2.cell? ⟨h + 1, 1, none⟩ = some v3 ∧ W2.cell? ⟨h + 1 + 1, 0, none⟩ = some v4 ∧ W2.cell? ⟨h + 1 + 1, 1, none⟩ = some v5 :=
  ⟨(hb.cell (p := ⟨h, 0, none⟩) (show _ < N by dsimp only; omega)).trans c0, (hb.cell (p := ⟨h, 1, none⟩) (show _ < N by dsimp only; omega)).trans c1, (hb.cell (p := ⟨h + 1, 0, none⟩) (show _ < N by dsimp only; omega)).trans c2, (hb.cell (p := ⟨h + 1, 1, none⟩) (show _ < N by dsimp only; omega)).trans c3, (hb.cell (p := ⟨h + 1 + 1, 0, none⟩) (show _ < N by dsimp only; omega)).trans c4, (hb.cell (p := ⟨h + 1 + 1, 1, none⟩) (show _ < N by dsimp only; omega)).trans c5⟩

set_option maxRecDepth 100000 in
set_option maxHeartbeats 6400000 in
theorem ref_bound (vX vY vV : Value) (X Y : List Int) (V : List (List Int)) (xl xh yl yh : Int) (w : World) (hR : RT w vX vY vV X Y V) (hE : tableE X Y V = 0) (hx : xl ≤ xh) (hy : yl ≤ yh) (hlx : liesB X xl xh = true) (hly : liesB Y yl yh = true) :
    Calls Try.prog 98 #[.agg #[vX, vY, vV], .agg #[.int .i64 xl, .int .i64 xh], .agg #[.int .i64 yl, .int .i64 yh]] w
      (AllBelow (.agg #[.int .i64 (lowG X Y V (flR X Y V (xl, yl)) (grid (stopsL X xl xh) (stopsL Y yl yh))), .int .i64 (hiG X Y V (upR X Y V (xl, yl)) (grid (stopsL X xl xh) (stopsL Y yl yh)))]) w) := by
  have B4 := bdW_below vX vY vV xl xh yl yh w
  have z4 : (bdW vX vY vV xl xh yl yh w).heap.size = w.heap.size + 1 + 1 + 1 + 1 := by simp
  have hlX : X.length ≤ 1000000 := by have := axB_len (tableE_zero hE).1; omega
  have hlY : Y.length ≤ 1000000 := by have := axB_len (tableE_zero hE).2.1; omega
  have hGon := grid_on (X := X) (Y := Y) hlx hly hx hy
  have HE := Lib.hid hE
  have HGon := Lib.hid hGon
  clear hE hGon hlx hly
  have h00 : stopsL X xl xh = xl :: ((X.filter (inB xl xh)) ++ if xl < xh then [xh] else []) := rfl
  have k00 : stopsL Y yl yh = yl :: ((Y.filter (inB yl yh)) ++ if yl < yh then [yh] else []) := rfl
  have hxs : (stopsL X xl xh)[0]? = some xl := by rw [h00]; rfl
  have hys : (stopsL Y yl yh)[0]? = some yl := by rw [k00]; rfl
  have hXS : (stopsL X xl xh).length ≤ 2000000 := by
    rw [h00]; have := List.length_filter_le (inB xl xh) X; simp only [List.length_cons, List.length_append]; split <;> simp <;> omega
  have hYS : (stopsL Y yl yh).length ≤ 2000000 := by
    rw [k00]; have := List.length_filter_le (inB yl yh) Y; simp only [List.length_cons, List.length_append]; split <;> simp <;> omega
  clear h00 k00
  have HXS := Lib.hid hxs
  have HYS := Lib.hid hys
  clear hxs hys
  go_enter Try.func98, Try.ntmps98
  go_upto_region 1 with fail
  go_cut [7, 8] (fun s7 s8 wx => RI wx s7 (stopsL X xl xh) ∧ RI wx s8 (stopsL Y yl yh) ∧ Below (w.heap.size + 1 + 1 + 1 + 1) (bdW vX vY vV xl xh yl yh w) wx)
  case first =>
    as_aux_lemma =>
    have hbx := box2224 (Below.refl _ (bdW vX vY vV xl xh yl yh w))
    obtain ⟨⟨q0, q1, q2⟩, ⟨q3, q4⟩, ⟨q5, q6⟩, q7⟩ := hbx
    have HRX := Lib.hid (fun (W' : World) (hb : Below w.heap.size (bdW vX vY vV xl xh yl yh w) W') => hR.x.below (B4.trans hb))
    have HRY := Lib.hid (fun (W' : World) (hb : Below w.heap.size (bdW vX vY vV xl xh yl yh w) W') => hR.y.below (B4.trans hb))
    change Code.wp _ _ _ _ (bdW vX vY vV xl xh yl yh w)
    generalize bdW vX vY vV xl xh yl yh w = W at *
    go_region_held3 (fun w' => w'.cell? ⟨w.heap.size, 0, none⟩ = some vX ∧ w'.cell? ⟨w.heap.size, 1, none⟩ = some vY ∧ w'.cell? ⟨w.heap.size + 1, 0, none⟩ = some (.int .i64 xl) ∧ w'.cell? ⟨w.heap.size + 1, 1, none⟩ = some (.int .i64 xh) ∧ w'.cell? ⟨w.heap.size + 1 + 1, 0, none⟩ = some (.int .i64 yl) ∧ w'.cell? ⟨w.heap.size + 1 + 1, 1, none⟩ = some (.int .i64 yh))
      (first | go_keep | (go_split_ands; exact bd_keep hbX (show _ < W.heap.size by omega) (by assumption) (by assumption) (by assumption) (by assumption) (by assumption) (by assumption)) | (go_split_ands; exact bd_keep hbX (show _ < wX.heap.size by omega) (by assumption) (by assumption) (by assumption) (by assumption) (by assumption) (by assumption)) | (go_split_ands; exact bd_keep hbX (show _ < wY.heap.size by omega) (by assumption) (by assumption) (by assumption) (by assumption) (by assumption) (by assumption)) | (go_split_ands; exact bd_keep hbY (show _ < W.heap.size by omega) (by assumption) (by assumption) (by assumption) (by assumption) (by assumption) (by assumption)) | (go_split_ands; exact bd_keep hbY (show _ < wX.heap.size by omega) (by assumption) (by assumption) (by assumption) (by assumption) (by assumption) (by assumption)) | (go_split_ands; exact bd_keep hbY (show _ < wY.heap.size by omega) (by assumption) (by assumption) (by assumption) (by assumption) (by assumption) (by assumption)))
      (first | (go_at_call_of 109 vX; refine (ref_corners vX X xl xh _ (HRX.out _ ?_) hlX).mono ?_; (first | exact (Below.refl _ _).drew | exact (Below.refl _ _).drew.trans (hbY.mono (show _ ≤ W.heap.size by omega))); rintro e wX ⟨uX, rfl, hX, hbX, hoX⟩; have zX : W.heap.size ≤ wX.heap.size := (by first | exact hbX.size | exact Nat.le_trans zY hbX.size)) | (go_at_call_of 109 vY; refine (ref_corners vY Y yl yh _ (HRY.out _ ?_) hlY).mono ?_; (first | exact (Below.refl _ _).drew | exact (Below.refl _ _).drew.trans (hbX.mono (show _ ≤ W.heap.size by omega))); rintro e wY ⟨uY, rfl, hY, hbY, hoY⟩; have zY : W.heap.size ≤ wY.heap.size := (by first | exact hbY.size | exact Nat.le_trans zX hbY.size)))
    all_goals
      go_wp2_with fail
      go_meet
      case rel =>
        have e0 := (Below.refl (w.heap.size + 1 + 1 + 1 + 1) W).drew
        first
          | exact ⟨hX.below hbY, hY, (e0.trans (hbX.mono (show _ ≤ W.heap.size by omega))).trans (hbY.mono (by omega))⟩
          | exact ⟨hX, hY.below hbX, (e0.trans (hbY.mono (show _ ≤ W.heap.size by omega))).trans (hbX.mono (by omega))⟩
  case rest =>
    as_aux_lemma =>
    obtain ⟨hX, hY, hbw⟩ := hcut
    obtain ⟨XS, hXSe⟩ : ∃ XS, XS = stopsL X xl xh := ⟨_, rfl⟩
    obtain ⟨YS, hYSe⟩ : ∃ YS, YS = stopsL Y yl yh := ⟨_, rfl⟩
    rw [← hXSe] at hX hXS HXS
    rw [← hYSe] at hY hYS HYS
    rw [← hXSe, ← hYSe] at HGon
    have HXSe := Lib.hid hXSe
    have HYSe := Lib.hid hYSe
    have hx0 : hd XS = xl := by rw [hXSe]; rfl
    have hy0 : hd YS = yl := by rw [hYSe]; rfl
    have hXl : 0 < XS.length := by rw [hXSe]; simp [stopsL]
    have hYl : 0 < YS.length := by rw [hYSe]; simp [stopsL]
    clear hXSe hYSe
    have HVal := Lib.hid (fun (g : Int × Int) (hg : OnT X Y g) (W' : World) (hb : Below w.heap.size w W') => ref_Value vX vY vV X Y V g.1 g.2 W' (hR.below hb) HE.out hg.x0 hg.x1 hg.y0 hg.y1)
    have HPt := Lib.hid (fun (g : Int × Int) (hg : OnT X Y g) => ref_point (x := g.1) (y := g.2) HE.out hg)
    have HZ : ∀ (i k : Nat) (x y : Int), XS[i]? = some x → YS[k]? = some y → OnT X Y (x, y) := fun i k x y h1 h2 => HGon.out (x, y) (mem_grid.2 ⟨List.mem_of_getElem? h1, List.mem_of_getElem? h2⟩)
    have hOn0 := HZ 0 0 xl yl HXS.out HYS.out
    have HOnI := Lib.hid HZ
    clear HZ
    have E1 := B4.trans (hbw.mono (by omega))
    obtain ⟨⟨q0, q1, q2⟩, ⟨q3, q4⟩, ⟨q5, q6⟩, q7⟩ := box2224 (hbw.mono (by omega))
    obtain ⟨b1, o1, c1, e1, hb1, hc1, -⟩ := hX.ends hXl
    obtain ⟨b2, o2, c2, e2, hb2, hc2, -⟩ := hY.ends hYl
    subst e1
    subst e2
    rw [hx0] at hc1
    rw [hy0] at hc2
    obtain ⟨p1, p2, p3, p4⟩ := HPt.out (xl, yl) hOn0
    have hval := fun (W' : World) (hb : Below wc.heap.size wc W') => HVal.out (xl, yl) hOn0 W' (E1.trans (hb.mono E1.size))
    have efl : flR X Y V (xl, yl) = valN X Y V (cellR X xl) (cellR Y yl) xl yl / valD X Y (cellR X xl) (cellR Y yl) := rfl
    have eup : upR X Y V (xl, yl) = upV (valN X Y V (cellR X xl) (cellR Y yl) xl yl) (valD X Y (cellR X xl) (cellR Y yl)) := rfl
    dsimp only at hval p1 p2 p3 p4
    generalize valN X Y V (cellR X xl) (cellR Y yl) xl yl = n0 at *
    generalize valD X Y (cellR X xl) (cellR Y yl) = d0 at *
    have Hfl := Lib.hid efl
    have Hup := Lib.hid eup
    clear efl eup
    have Hval := Lib.hid hval
    clear hval hx0 hy0 hOn0
    have i0 : (0 : Int) < (XS.length : Int) := by omega
    have uH : w.heap.size < wc.heap.size := by omega
    have i1 : (0 : Int) < (YS.length : Int) := by omega
    go_wp2_with fail
    refine rg_all (by kernel_rfl) (by kernel_rfl) ?_
    repeat (go_big_quiet_step ((go_at_call 110; exact Calls.regrown_of (Hval.out _ (below_regrown _ _ _)))))
    refine wpQuiet_nil ?_
    intro w5 hw5
    have F5 := rg_below hw5
    clear hw5 Hval
    have E5 := E1.trans (F5.mono E1.size)
    have hX5 := hX.below F5
    have hY5 := hY.below F5
    have G5 := hbw.trans (F5.mono (by omega))
    clear hX hY hbw F5 E1 q0 q1 q2 q3 q4 q5 q6 q7 hb1 hb2 hc1 hc2
    go_wp2_with (first
      | (go_at_call 111; refine (ref_floor n0 d0 _ (by omega) (by omega) (by omega) (by omega)).mono ?_; rintro e w' ⟨rfl, rfl⟩)
      | (go_at_call 112; refine (ref_ceil n0 d0 _ (by omega) (by omega) (by omega) (by omega)).mono ?_; rintro e w' ⟨rfl, rfl⟩))
    have hini : BdAt w5 w5.heap.size (lowG X Y V (flR X Y V (xl, yl)) (gridTo XS YS 0 0)) (hiG X Y V (upR X Y V (xl, yl)) (gridTo XS YS 0 0)) (w5.alloc (.cells #[.int .i64 (n0 / d0), .int .i64 (upV n0 d0)] 27)) := by
      rw [gridTo_zero]
      refine ⟨(Below.refl _ _).alloc (Nat.le_refl _) _, ?_, by simp⟩
      show _ = some (Obj.cells #[.int .i64 (flR X Y V (xl, yl)), .int .i64 (upR X Y V (xl, yl))] 27 (0, 0))
      rw [Hfl.out, Hup.out]
      exact heap_alloc_new _ _
    have z5 := G5.size
    rw [z4] at z5
    clear p1 p2 p3 p4
    go_loopw [12] (fun s12 wr => ∃ i : Nat, s12 = .int .i64 i ∧ i ≤ XS.length ∧ BdAt w5 w5.heap.size (lowG X Y V (flR X Y V (xl, yl)) (gridTo XS YS i 0)) (hiG X Y V (upR X Y V (xl, yl)) (gridTo XS YS i 0)) wr) (fun s12 _ => XS.length - (intOf s12).toNat)
    case atStart => exact ⟨0, rfl, by omega, hini⟩
    case round =>
      as_aux_lemma =>
      obtain ⟨i, rfl, hi, hst⟩ := hrel
      clear hini
      by_cases hlt : i < XS.length
      · go_wp2_with fail
        obtain ⟨wo, rfl⟩ : ∃ wo : World, wo = wr := ⟨_, rfl⟩
        go_loopw [13] (fun s13 wr => ∃ k : Nat, s13 = .int .i64 k ∧ k ≤ YS.length ∧ BdAt w5 w5.heap.size (lowG X Y V (flR X Y V (xl, yl)) (gridTo XS YS i k)) (hiG X Y V (upR X Y V (xl, yl)) (gridTo XS YS i k)) wr) (fun s13 _ => YS.length - (intOf s13).toNat)
        case atStart => exact ⟨0, rfl, by omega, hst⟩
        case round =>
          as_aux_lemma =>
          clear hst
          obtain ⟨k, rfl, hk, hst⟩ := hrel
          by_cases hkt : k < YS.length
          · have E6 := E5.trans (hst.below.mono E5.size)
            have hX6 := hX5.below hst.below
            have hY6 := hY5.below hst.below
            have G6 := G5.trans (hst.below.mono z5)
            obtain ⟨⟨q0, q1, q2⟩, ⟨q3, q4⟩, ⟨q5, q6⟩, q7⟩ := box2224 (G6.mono (by omega))
            obtain ⟨b3, o3, c3, x, e3, hb3, hx3, hc3⟩ := hX6.at hlt
            obtain ⟨b4, o4, c4, y, e4, hb4, hy4, hc4⟩ := hY6.at hkt
            cases e3
            cases e4
            have hon := HOnI.out i k x y hx3 hy4
            obtain ⟨p1, p2, p3, p4⟩ := HPt.out (x, y) hon
            have hval := fun (W' : World) (hb : Below wr.heap.size wr W') => HVal.out (x, y) hon W' (E6.trans (hb.mono E6.size))
            have hgn := gridTo_next hx3 hy4
            have hlo : lowG X Y V (flR X Y V (xl, yl)) (gridTo XS YS i (k + 1)) = mnI (lowG X Y V (flR X Y V (xl, yl)) (gridTo XS YS i k)) (valN X Y V (cellR X x) (cellR Y y) x y / valD X Y (cellR X x) (cellR Y y)) := by rw [hgn, lowG_snoc]; rfl
            have hhi : hiG X Y V (upR X Y V (xl, yl)) (gridTo XS YS i (k + 1)) = mxI (hiG X Y V (upR X Y V (xl, yl)) (gridTo XS YS i k)) (upV (valN X Y V (cellR X x) (cellR Y y) x y) (valD X Y (cellR X x) (cellR Y y))) := by rw [hgn, hiG_snoc]; rfl
            dsimp only at hval p1 p2 p3 p4
            generalize valN X Y V (cellR X x) (cellR Y y) x y = n at *
            generalize valD X Y (cellR X x) (cellR Y y) = d at *
            generalize lowG X Y V (flR X Y V (xl, yl)) (gridTo XS YS i k) = lo at *
            generalize hiG X Y V (upR X Y V (xl, yl)) (gridTo XS YS i k) = up at *
            have Hlo := Lib.hid hlo
            have Hhi := Lib.hid hhi
            have Hval := Lib.hid hval
            clear hlo hhi hval hgn hx3 hy4 hon
            obtain ⟨m, hm⟩ : ∃ m, (if n / d < lo then n / d else lo) = m := ⟨_, rfl⟩
            obtain ⟨m2, hm2⟩ : ∃ m, (if up < upV n d then upV n d else up) = m := ⟨_, rfl⟩
            have Hm := Lib.hid hm
            have Hm2 := Lib.hid hm2
            have uH : w.heap.size < wr.heap.size := by omega
            have j0 : (0 : Int) ≤ (i : Int) := by omega
            have j1 : (i : Int) < (XS.length : Int) := by omega
            have j2 : (0 : Int) ≤ (k : Int) := by omega
            have j3 : (k : Int) < (YS.length : Int) := by omega
            clear hm2
            go_wp2_with fail
            refine rg_all (by kernel_rfl) (by kernel_rfl) ?_
            repeat (go_big_quiet_step ((go_at_call 110; exact Calls.regrown_of (Hval.out _ (below_regrown _ _ _)))))
            refine wpQuiet_nil ?_
            intro w7 hw7
            have h7 := hst.quiet (rg_below hw7)
            clear hw7 Hval q0 q1 q2 q3 q4 q5 q6 q7 hc3 hc4 hb3 hb4 hst E6 G6 hX6 hY6 uH j0 j1 j2 j3
            have s0 := (blk_cells h7.blk 0).1
            have s1 := (blk_cells h7.blk 1).1
            simp only [Array.getElem?_eq_getElem, List.size_toArray, List.length_cons, List.length_nil, Nat.reduceAdd, Nat.reduceLT, List.getElem_toArray, List.getElem_cons_zero, List.getElem_cons_succ] at s0 s1
            have uO := h7.lt
            go_wp2_with fail
            refine rg_tail 7 (by kernel_rfl) (by kernel_rfl) ?_
            simp only [List.take_succ_cons, List.take_zero, List.drop_succ_cons, List.drop_zero]
            repeat (go_big_quiet_step ((go_at_call 111; exact Calls.rg_same (ref_floor _ _ _ (by omega) (by omega) (by omega) (by omega)))))
            refine wpQuiet_nil ?_
            intro w8 hw8
            have h8 := h7.quiet (rg_below hw8)
            clear hw8 s0 s1 uO h7
            have s0 := (blk_cells h8.blk 0).1
            have t0 := (blk_cells h8.blk 0).2
            simp only [Array.getElem?_eq_getElem, List.size_toArray, List.length_cons, List.length_nil, Nat.reduceAdd, Nat.reduceLT, List.getElem_toArray, List.getElem_cons_zero, List.getElem_cons_succ] at s0
            go_wp2_with fail
            have h9 := h8.setLo m
            generalize w8.setCell ⟨w5.heap.size, 0, none⟩ (.int .i64 m) = w9 at *
            have hm2 := Hm2.out
            clear s0 t0 h8 hm
            have s0 := (blk_cells h9.blk 0).1
            have s1 := (blk_cells h9.blk 1).1
            simp only [Array.getElem?_eq_getElem, List.size_toArray, List.length_cons, List.length_nil, Nat.reduceAdd, Nat.reduceLT, List.getElem_toArray, List.getElem_cons_zero, List.getElem_cons_succ] at s0 s1
            have uO := h9.lt
            refine rg_tail 7 (by kernel_rfl) (by kernel_rfl) ?_
            simp only [List.take_succ_cons, List.take_zero, List.drop_succ_cons, List.drop_zero]
            repeat (go_big_quiet_step ((go_at_call 112; exact Calls.rg_same (ref_ceil _ _ _ (by omega) (by omega) (by omega) (by omega)))))
            refine wpQuiet_nil ?_
            intro wA hwA
            have hA := h9.quiet (rg_below hwA)
            clear hwA s0 s1 uO h9
            have s0 := (blk_cells hA.blk 1).1
            have t0 := (blk_cells hA.blk 1).2
            simp only [Array.getElem?_eq_getElem, List.size_toArray, List.length_cons, List.length_nil, Nat.reduceAdd, Nat.reduceLT, List.getElem_toArray, List.getElem_cons_zero, List.getElem_cons_succ] at s0
            have HB := Lib.hid (hA.setHi m2)
            go_wp2_with fail
            go_roundw
            case rel => exact ⟨k + 1, by go_num, by omega, by rw [Hlo.out, Hhi.out, mnI, mxI, Hm.out, Hm2.out]; exact HB.out⟩
            case measure => simp [intOf]; omega
          · go_wp2_with fail
            go_roundw
            case rel => exact ⟨i + 1, by go_num, by omega, by have := List.getElem?_eq_getElem hlt; rw [← gridTo_row this (show YS.length ≤ k by omega)]; exact hst⟩
            case measure => simp [intOf]; omega
      · have hE6 := E5.trans (hst.below.mono E5.size)
        have hG6 := G5.trans (hst.below.mono z5)
        have s0 := (blk_cells hst.blk 0).1
        have s1 := (blk_cells hst.blk 1).1
        simp only [Array.getElem?_eq_getElem, List.size_toArray, List.length_cons, List.length_nil, Nat.reduceAdd, Nat.reduceLT, List.getElem_toArray, List.getElem_cons_zero, List.getElem_cons_succ] at s0 s1
        rw [gridTo_all (by omega)] at s0 s1
        have r0 : wr.heap[w.heap.size + 1 + 1 + 1]? = some (.cells #[.int .i64 0, .int .i64 0] 27 (0, 0)) := by
          rw [hG6.block _ (by omega)]
          rw [show w.heap.size + 1 + 1 + 1 = (((w.alloc (.cells #[vX, vY, vV] 40)).alloc (.cells #[.int .i64 xl, .int .i64 xh] 27)).alloc (.cells #[.int .i64 yl, .int .i64 yh] 27)).heap.size by simp]
          exact heap_alloc_new _ _
        have t0 := (blk_cells r0 0).1
        have t1 := (blk_cells r0 1).1
        have f0 := (blk_cells r0 0).2
        have f1 := (blk_cells r0 1).2
        simp only [Array.getElem?_eq_getElem, List.size_toArray, List.length_cons, List.length_nil, Nat.reduceAdd, Nat.reduceLT, List.getElem_toArray, List.getElem_cons_zero, List.getElem_cons_succ] at t0 t1
        have zr := hG6.size
        rw [z4] at zr
        have uR : w.heap.size + 1 + 1 + 1 < wr.heap.size := by omega
        clear r0
        go_wp2_with fail
        rw [← HXSe.out, ← HYSe.out]
        refine bodyPost_ret (v := .agg #[.int .i64 (lowG X Y V (flR X Y V (xl, yl)) (grid XS YS)), .int .i64 (hiG X Y V (upR X Y V (xl, yl)) (grid XS YS))]) (by simp [results, Try.results98, go_sem, t0, t1, uR]) rfl ⟨rfl, ?_⟩
        exact (hE6.setCell (by dsimp only; omega) _).setCell (by dsimp only; omega) _

end Go.Proofs.Ytliddinpfgpnfaa
