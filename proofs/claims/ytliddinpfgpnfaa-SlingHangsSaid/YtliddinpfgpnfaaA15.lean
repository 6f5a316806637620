/- Contract: the corners with the least and the greatest value. -/
import Derived.Test.YtliddinpfgpnfaaA14
namespace Go.Proofs.Ytliddinpfgpnfaa
open Go Go.RowKit Go.Sort Go.Shelf
set_option linter.unusedSimpArgs false
set_option linter.unusedVariables false
attribute [local go_sem] Oper.semAt_some

set_option maxHeartbeats 1600000 in
theorem spans_corners (vX vY vV : Value) (xl xh yl yh : Int) (w : World) :
    Calls Try.prog 91 #[.agg #[vX, vY, vV], .agg #[.int .i64 xl, .int .i64 xh], .agg #[.int .i64 yl, .int .i64 yh]] w fun e w' =>
      e = .returned (.func (.func 104) #[] #[.pointer (some ⟨w.heap.size, 0, none⟩), .pointer (some ⟨w.heap.size + 1, 0, none⟩), .pointer (some ⟨w.heap.size + 1 + 1, 0, none⟩)]) ∧
      ((w.alloc (.cells #[vX, vY, vV] 40)).alloc (.cells #[.int .i64 xl, .int .i64 xh] 27)).alloc (.cells #[.int .i64 yl, .int .i64 yh] 27) = w' := by
  go_enter Try.func91, Try.ntmps91
  go_wp2
  go_ret
  exact ⟨rfl, rfl⟩

/-- A point brought onto the table, and its cells. -/
def onP (X Y : List Int) (p : Int × Int) : Int × Int := (cl (hd X) (la X) p.1, cl (hd Y) (la Y) p.2)
def ptC (X Y : List Int) (V : List (List Int)) (p : Int × Int) : Array Value := #[.int .i64 p.1, .int .i64 p.2, .int .i64 (atN X Y V p.1 p.2), .int .i64 (atD X Y p.1 p.2)]
def cmpP (X Y : List Int) (V : List (List Int)) (p q : Int × Int) : Int := cmpV (atN X Y V p.1 p.2) (atD X Y p.1 p.2) (atN X Y V q.1 q.2) (atD X Y q.1 q.2)

/-- The first point with the least value; with the greatest. -/
def lstep (X Y : List Int) (V : List (List Int)) (acc : Option (Int × Int)) (p : Int × Int) : Option (Int × Int) :=
  match acc with | none => some (onP X Y p) | some q => if cmpP X Y V (onP X Y p) q < 0 then some (onP X Y p) else some q
def mstep (X Y : List Int) (V : List (List Int)) (acc : Option (Int × Int)) (p : Int × Int) : Option (Int × Int) :=
  match acc with | none => some (onP X Y p) | some q => if 0 < cmpP X Y V (onP X Y p) q then some (onP X Y p) else some q
def leastO (X Y : List Int) (V : List (List Int)) (l : List (Int × Int)) : Option (Int × Int) := l.foldl (lstep X Y V) none
def mostO (X Y : List Int) (V : List (List Int)) (l : List (Int × Int)) : Option (Int × Int) := l.foldl (mstep X Y V) none
def optC (X Y : List Int) (V : List (List Int)) (o : Option (Int × Int)) : Array Value := match o with | none => #[.int .i64 0, .int .i64 0, .int .i64 0, .int .i64 0] | some p => ptC X Y V p

theorem leastO_snoc (X Y : List Int) (V : List (List Int)) (l : List (Int × Int)) (p : Int × Int) : leastO X Y V (l ++ [p]) = lstep X Y V (leastO X Y V l) p := by simp [leastO]
theorem mostO_snoc (X Y : List Int) (V : List (List Int)) (l : List (Int × Int)) (p : Int × Int) : mostO X Y V (l ++ [p]) = mstep X Y V (mostO X Y V l) p := by simp [mostO]

theorem blk_grown {W W' : World} {row : Option Nat} {k : Nat} {o : Obj} (h : W.heap[k]? = some o) (ho : o.isCells = true) (hg : W.grownBy W' row) (hr : ∀ r, row = some r → ∃ o : Obj, W.heap[r]? = some o ∧ o.isCells = false) : W'.heap[k]? = some o := by
  rw [hg.block k (by rcases Nat.lt_or_ge k W.heap.size with q | q; exact q; rw [Array.getElem?_eq_none q] at h; cases h) (fun e => ?_)]
  · exact h
  · obtain ⟨o2, h2, h3⟩ := hr k e.symm
    rw [h] at h2; cases h2; rw [ho] at h3; cases h3

/-- What the loop of extremes keeps. -/
structure ExAt (X Y : List Int) (V : List (List Int)) (w : World) (L M G : Nat) (pre : List (Int × Int)) (W : World) : Prop where
  below : Below w.heap.size w W
  bL : W.heap[L]? = some (.cells (optC X Y V (leastO X Y V pre)) 112 (0, 0))
  bM : W.heap[M]? = some (.cells (optC X Y V (mostO X Y V pre)) 112 (0, 0))
  bG : W.heap[G]? = some (.cells #[.bool (!pre.isEmpty)] 4 (0, 0))
  sz : w.heap.size + 9 ≤ W.heap.size

theorem ExAt.own (X Y : List Int) (V : List (List Int)) (w : World) (L M G B : Nat) (hB : w.heap.size ≤ B) : OwnFrom B (ExAt X Y V w L M G) := by
  intro s W W' row h hg hr
  have hr' : ∀ r, row = some r → ∃ o : Obj, W.heap[r]? = some o ∧ o.isCells = false := fun r e => (hr r e).2
  refine ⟨h.below.trans ⟨hg.os, hg.tape, hg.output, hg.size, fun k hk => hg.block k (Nat.lt_of_lt_of_le hk h.below.size) (fun e => by have := (hr k e.symm).1; omega)⟩, blk_grown h.bL rfl hg hr', blk_grown h.bM rfl hg hr', blk_grown h.bG rfl hg hr', Nat.le_trans h.sz hg.size⟩

theorem kx_putObj {n0 B : Nat} {bad : List Nat} (hn : n0 ≤ B) (W : World) (l : Nat) (o o' : Obj) (hl : B ≤ l) (h : W.heap[l]? = some o) (ho : o.isCells = false) (_ : o.isWalk = false) : Kx n0 bad W (W.putObj l o') := by
  have hg := grownBy_putObj' W l o'
  refine ⟨⟨hg.os, hg.tape, hg.output, hg.size, fun k hk => hg.block k ?_ (fun e => by cases e; omega)⟩, fun k q hk hq _ => blk_grown hk hq hg (fun r e => by cases e; exact ⟨_, h, ho⟩)⟩
  have : l < W.heap.size := by
    rcases Nat.lt_or_ge l W.heap.size with q | q
    · exact q
    · rw [Array.getElem?_eq_none q] at h; cases h
  omega

/-- A point lies on the table. -/
structure OnT (X Y : List Int) (p : Int × Int) : Prop where
  x0 : hd X ≤ p.1
  x1 : p.1 ≤ la X
  y0 : hd Y ≤ p.2
  y1 : p.2 ≤ la Y

theorem hd_la {X : List Int} (h : axB X = true) : hd X ≤ la X := by
  have := axB_len h
  exact kn_le h 0 (X.length - 1) (by omega) (by omega)

theorem onP_on {X Y : List Int} {V : List (List Int)} (hE : tableE X Y V = 0) (p : Int × Int) : OnT X Y (onP X Y p) := by
  obtain ⟨a, b, _, _⟩ := tableE_zero hE
  have h1 := cl_in (x := p.1) (hd_la a)
  have h2 := cl_in (x := p.2) (hd_la b)
  exact ⟨h1.1, h1.2, h2.1, h2.2⟩

theorem at_bounds {X Y : List Int} {V : List (List Int)} (hE : tableE X Y V = 0) {p : Int × Int} (h : OnT X Y p) :
    -1000000000000000 ≤ atN X Y V p.1 p.2 ∧ atN X Y V p.1 p.2 ≤ 1000000000000000 ∧ 1 ≤ atD X Y p.1 p.2 ∧ atD X Y p.1 p.2 ≤ 100000000 := by
  obtain ⟨aX, aY, aV, aB⟩ := tableE_zero hE
  obtain ⟨i1, i2, i3⟩ := cell_at aX h.x0 h.x1
  obtain ⟨k1, k2, k3⟩ := cell_at aY h.y0 h.y1
  have si := kn_step aX _ i1
  have sk := kn_step aY _ k1
  obtain ⟨hrows, hvb⟩ := table_rows aB
  have g00 := hvb (cellN X p.1) (cellN Y p.2) (by omega) (by omega)
  have g01 := hvb (cellN X p.1) (cellN Y p.2 + 1) (by omega) (by omega)
  have g10 := hvb (cellN X p.1 + 1) (cellN Y p.2) (by omega) (by omega)
  have g11 := hvb (cellN X p.1 + 1) (cellN Y p.2 + 1) (by omega) (by omega)
  have m1 := mul_bound (a := kn X (cellN X p.1 + 1) - p.1) (b := kn Y (cellN Y p.2 + 1) - p.2) (A := 10000) (B := 10000) (by omega) (by omega) (by omega) (by omega)
  have m2 := mul_bound (a := p.1 - kn X (cellN X p.1)) (b := kn Y (cellN Y p.2 + 1) - p.2) (A := 10000) (B := 10000) (by omega) (by omega) (by omega) (by omega)
  have m3 := mul_bound (a := kn X (cellN X p.1 + 1) - p.1) (b := p.2 - kn Y (cellN Y p.2)) (A := 10000) (B := 10000) (by omega) (by omega) (by omega) (by omega)
  have m4 := mul_bound (a := p.1 - kn X (cellN X p.1)) (b := p.2 - kn Y (cellN Y p.2)) (A := 10000) (B := 10000) (by omega) (by omega) (by omega) (by omega)
  have m5 := mul_bound (a := kn X (cellN X p.1 + 1) - kn X (cellN X p.1)) (b := kn Y (cellN Y p.2 + 1) - kn Y (cellN Y p.2)) (A := 10000) (B := 10000) (by omega) (by omega) (by omega) (by omega)
  have m6 := Int.mul_pos (show 0 < kn X (cellN X p.1 + 1) - kn X (cellN X p.1) by omega) (show 0 < kn Y (cellN Y p.2 + 1) - kn Y (cellN Y p.2) by omega)
  have q1 := mul_bound2 m1.1 m1.2 g00.1 g00.2
  have q2 := mul_bound2 m2.1 m2.2 g10.1 g10.2
  have q3 := mul_bound2 m3.1 m3.2 g01.1 g01.2
  have q4 := mul_bound2 m4.1 m4.2 g11.1 g11.2
  unfold atN atD
  omega

theorem leastO_some {X Y : List Int} {V : List (List Int)} (hE : tableE X Y V = 0) (l : List (Int × Int)) : ∀ acc, (∀ q, acc = some q → OnT X Y q) → (l ≠ [] ∨ acc ≠ none) → ∃ q, l.foldl (lstep X Y V) acc = some q ∧ OnT X Y q := by
  induction l with
  | nil => intro acc h1 h2; cases acc with | none => simp at h2 | some q => exact ⟨q, rfl, h1 q rfl⟩
  | cons p l ih =>
    intro acc h1 _
    refine ih _ ?_ (Or.inr ?_)
    · intro q hq
      cases acc with
      | none => simp [lstep] at hq; subst hq; exact onP_on hE p
      | some r => simp only [lstep] at hq; split at hq <;> cases hq; exact onP_on hE p; exact h1 _ rfl
    · cases acc with
      | none => simp [lstep]
      | some r => simp only [lstep]; split <;> simp
theorem mostO_some {X Y : List Int} {V : List (List Int)} (hE : tableE X Y V = 0) (l : List (Int × Int)) : ∀ acc, (∀ q, acc = some q → OnT X Y q) → (l ≠ [] ∨ acc ≠ none) → ∃ q, l.foldl (mstep X Y V) acc = some q ∧ OnT X Y q := by
  induction l with
  | nil => intro acc h1 h2; cases acc with | none => simp at h2 | some q => exact ⟨q, rfl, h1 q rfl⟩
  | cons p l ih =>
    intro acc h1 _
    refine ih _ ?_ (Or.inr ?_)
    · intro q hq
      cases acc with
      | none => simp [mstep] at hq; subst hq; exact onP_on hE p
      | some r => simp only [mstep] at hq; split at hq <;> cases hq; exact onP_on hE p; exact h1 _ rfl
    · cases acc with
      | none => simp [mstep]
      | some r => simp only [mstep]; split <;> simp

theorem lt_of_blk {W : World} {k : Nat} {o : Obj} (h : W.heap[k]? = some o) : k < W.heap.size := by
  rcases Nat.lt_or_ge k W.heap.size with q | q
  · exact q
  · rw [Array.getElem?_eq_none q] at h; cases h
theorem blk_below {W W' : World} {k : Nat} {o : Obj} (h : W.heap[k]? = some o) (hb : Below W.heap.size W W') : W'.heap[k]? = some o := by rw [hb.block k (lt_of_blk h)]; exact h

/-- Some blocks alone have turned; new ones may lie behind. -/
structure Chg (S : List Nat) (W W' : World) : Prop where
  os : W'.os = W.os
  tape : W'.tape = W.tape
  output : W'.output = W.output
  size : W.heap.size ≤ W'.heap.size
  block : ∀ k, k < W.heap.size → k ∉ S → W'.heap[k]? = W.heap[k]?
theorem Chg.refl (S : List Nat) (W : World) : Chg S W W := ⟨rfl, rfl, rfl, Nat.le_refl _, fun _ _ _ => rfl⟩
theorem Chg.trans {S : List Nat} {A B C : World} (h : Chg S A B) (k : Chg S B C) : Chg S A C :=
  ⟨k.os.trans h.os, k.tape.trans h.tape, k.output.trans h.output, Nat.le_trans h.size k.size, fun i hi hs => (k.block i (Nat.lt_of_lt_of_le hi h.size) hs).trans (h.block i hi hs)⟩
theorem Chg.of_below {S : List Nat} {W W' : World} (h : Below W.heap.size W W') : Chg S W W' := ⟨h.os, h.tape, h.output, h.size, fun k hk _ => h.block k hk⟩
theorem Chg.set {S : List Nat} {W W' : World} (h : Chg S W W') {b j : Nat} (hb : b ∈ S) (u : Value) : Chg S W (W'.setCell ⟨b, j, none⟩ u) :=
  h.trans ⟨rfl, rfl, rfl, by simp [World.setCell], fun k _ hs => heap_setCell_ne (fun e => hs (by rw [e]; exact hb)) u⟩

theorem put4_at {W : World} {b : Nat} {t : TypeId} {a0 a1 a2 a3 : Value} (h : W.heap[b]? = some (.cells #[a0, a1, a2, a3] t (0, 0))) (u0 u1 u2 u3 : Value) :
    ((((W.setCell ⟨b, 0, none⟩ u0).setCell ⟨b, 1, none⟩ u1).setCell ⟨b, 2, none⟩ u2).setCell ⟨b, 3, none⟩ u3).heap[b]? = some (.cells #[u0, u1, u2, u3] t (0, 0)) := by
  rw [heap_setCell_at (heap_setCell_at (heap_setCell_at (heap_setCell_at h _) _) _) _]; rfl
theorem put4_ne {W : World} {b k : Nat} (hk : k ≠ b) (u0 u1 u2 u3 : Value) :
    ((((W.setCell ⟨b, 0, none⟩ u0).setCell ⟨b, 1, none⟩ u1).setCell ⟨b, 2, none⟩ u2).setCell ⟨b, 3, none⟩ u3).heap[k]? = W.heap[k]? := by
  rw [heap_setCell_ne hk, heap_setCell_ne hk, heap_setCell_ne hk, heap_setCell_ne hk]
theorem put1_at {W : World} {b : Nat} {t : TypeId} {a0 : Value} (h : W.heap[b]? = some (.cells #[a0] t (0, 0))) (u0 : Value) : (W.setCell ⟨b, 0, none⟩ u0).heap[b]? = some (.cells #[u0] t (0, 0)) := by
  rw [heap_setCell_at h]; rfl

theorem ex_fin {X Y : List Int} {V : List (List Int)} {w W W' : World} {L M G B : Nat} {pre : List (Int × Int)} {x : Int × Int} (hI : ExAt X Y V w L M G pre W) (hL : w.heap.size ≤ L) (hM : w.heap.size ≤ M) (hG : w.heap.size ≤ G) (hc : Chg [L, M, G] W W')
    (h1 : W'.heap[L]? = some (.cells (optC X Y V (lstep X Y V (leastO X Y V pre) x)) 112 (0, 0))) (h2 : W'.heap[M]? = some (.cells (optC X Y V (mstep X Y V (mostO X Y V pre) x)) 112 (0, 0))) (h3 : W'.heap[G]? = some (.cells #[.bool true] 4 (0, 0))) :
    KeepsFrom B W W' ∧ Kx w.heap.size [L, M, G] W W' ∧ ExAt X Y V w L M G (pre ++ [x]) W' := by
  have hlt : ∀ k o, W.heap[k]? = some o → k < W.heap.size := fun k o h => by
    rcases Nat.lt_or_ge k W.heap.size with q | q
    · exact q
    · rw [Array.getElem?_eq_none q] at h; cases h
  have hB : Below w.heap.size W W' := ⟨hc.os, hc.tape, hc.output, hc.size, fun k hk => hc.block k (Nat.lt_of_lt_of_le hk hI.below.size) (by simp; omega)⟩
  refine ⟨⟨hc.size, fun k o _ hk ho => ?_⟩, ⟨hB, fun k o hk _ hb => by rw [hc.block k (hlt k o hk) hb]; exact hk⟩, ⟨hI.below.trans hB, by rw [leastO_snoc]; exact h1, by rw [mostO_snoc]; exact h2, by rw [h3]; simp, Nat.le_trans hI.sz hc.size⟩⟩
  rw [hc.block k (hlt k o hk)]
  · exact hk
  · simp only [List.mem_cons, List.not_mem_nil, or_false, not_or]
    refine ⟨fun e => ?_, fun e => ?_, fun e => ?_⟩
    · subst e; rw [hI.bL] at hk; cases hk; cases ho
    · subst e; rw [hI.bM] at hk; cases hk; cases ho
    · subst e; rw [hI.bG] at hk; cases hk; cases ho

theorem lstep_lt {X Y : List Int} {V : List (List Int)} {x p q : Int × Int} (hp : p = onP X Y x) (h : cmpV (atN X Y V p.1 p.2) (atD X Y p.1 p.2) (atN X Y V q.1 q.2) (atD X Y q.1 q.2) < 0) : lstep X Y V (some q) x = some p := by
  subst hp; simp [lstep, cmpP, h]
theorem lstep_ge {X Y : List Int} {V : List (List Int)} {x p q : Int × Int} (hp : p = onP X Y x) (h : 0 ≤ cmpV (atN X Y V p.1 p.2) (atD X Y p.1 p.2) (atN X Y V q.1 q.2) (atD X Y q.1 q.2)) : lstep X Y V (some q) x = some q := by
  subst hp; have h' : ¬ cmpP X Y V (onP X Y x) q < 0 := by unfold cmpP; omega
  exact if_neg h'
theorem mstep_gt {X Y : List Int} {V : List (List Int)} {x p q : Int × Int} (hp : p = onP X Y x) (h : 0 < cmpV (atN X Y V p.1 p.2) (atD X Y p.1 p.2) (atN X Y V q.1 q.2) (atD X Y q.1 q.2)) : mstep X Y V (some q) x = some p := by
  subst hp; simp [mstep, cmpP, h]
theorem mstep_le {X Y : List Int} {V : List (List Int)} {x p q : Int × Int} (hp : p = onP X Y x) (h : cmpV (atN X Y V p.1 p.2) (atD X Y p.1 p.2) (atN X Y V q.1 q.2) (atD X Y q.1 q.2) ≤ 0) : mstep X Y V (some q) x = some q := by
  subst hp; have h' : ¬ 0 < cmpP X Y V (onP X Y x) q := by unfold cmpP; omega
  exact if_neg h'

/-- The world in which the loop of extremes begins. -/
def exW (vX vY vV : Value) (xl xh yl yh : Int) (w : World) : World :=
  ((((((((w.alloc (.cells #[vX, vY, vV] 40)).alloc (.cells #[.int .i64 xl, .int .i64 xh] 27)).alloc (.cells #[.int .i64 yl, .int .i64 yh] 27)).alloc (.cells #[.int .i64 0, .int .i64 0, .int .i64 0, .int .i64 0] 112)).alloc (.cells #[.int .i64 0, .int .i64 0, .int .i64 0, .int .i64 0] 112)).alloc
    (.cells #[.bool false] 4)).alloc (.cells #[vX, vY, vV] 40)).alloc (.cells #[.int .i64 xl, .int .i64 xh] 27)).alloc (.cells #[.int .i64 yl, .int .i64 yh] 27)

theorem exW_size (vX vY vV : Value) (xl xh yl yh : Int) (w : World) : (exW vX vY vV xl xh yl yh w).heap.size = w.heap.size + 9 := by simp [exW]

theorem heap_alloc_old {w : World} {o o' : Obj} {k : Nat} (h : w.heap[k]? = some o) : (w.alloc o').heap[k]? = some o := by
  rw [Below.heap_alloc w o' k (by rcases Nat.lt_or_ge k w.heap.size with q | q; exact q; rw [Array.getElem?_eq_none q] at h; cases h)]; exact h

theorem exW_below (vX vY vV : Value) (xl xh yl yh : Int) (w : World) : Below w.heap.size w (exW vX vY vV xl xh yl yh w) := by
  unfold exW
  refine Below.alloc (Below.alloc (Below.alloc (Below.alloc (Below.alloc (Below.alloc (Below.alloc (Below.alloc (Below.alloc (Below.refl _ _) ?_ _) ?_ _) ?_ _) ?_ _) ?_ _) ?_ _) ?_ _) ?_ _) ?_ _ <;> simp <;> omega

theorem exW_blocks (vX vY vV : Value) (xl xh yl yh : Int) (w : World) :
    (exW vX vY vV xl xh yl yh w).heap[w.heap.size + 3]? = some (.cells #[.int .i64 0, .int .i64 0, .int .i64 0, .int .i64 0] 112 (0, 0)) ∧
    (exW vX vY vV xl xh yl yh w).heap[w.heap.size + 4]? = some (.cells #[.int .i64 0, .int .i64 0, .int .i64 0, .int .i64 0] 112 (0, 0)) ∧
    (exW vX vY vV xl xh yl yh w).heap[w.heap.size + 5]? = some (.cells #[.bool false] 4 (0, 0)) ∧
    (exW vX vY vV xl xh yl yh w).heap[w.heap.size + 6]? = some (.cells #[vX, vY, vV] 40 (0, 0)) ∧
    (exW vX vY vV xl xh yl yh w).heap[w.heap.size + 7]? = some (.cells #[.int .i64 xl, .int .i64 xh] 27 (0, 0)) ∧
    (exW vX vY vV xl xh yl yh w).heap[w.heap.size + 8]? = some (.cells #[.int .i64 yl, .int .i64 yh] 27 (0, 0)) := by
  unfold exW
  have key : ∀ (W : World) (o : Obj) (k : Nat), W.heap.size = k → (W.alloc o).heap[k]? = some o := fun W o k h => by subst h; exact heap_alloc_new W o
  refine ⟨?_, ?_, ?_, ?_, ?_, ?_⟩
  · exact heap_alloc_old (heap_alloc_old (heap_alloc_old (heap_alloc_old (heap_alloc_old (key _ _ _ (by simp))))))
  · exact heap_alloc_old (heap_alloc_old (heap_alloc_old (heap_alloc_old (key _ _ _ (by simp)))))
  · exact heap_alloc_old (heap_alloc_old (heap_alloc_old (key _ _ _ (by simp))))
  · exact heap_alloc_old (heap_alloc_old (key _ _ _ (by simp)))
  · exact heap_alloc_old (key _ _ _ (by simp))
  · exact key _ _ _ (by simp)

theorem results_two {P : Program} {fn : Func} {p1 p2 : Tmp} {t1 t2 : TypeId} (h : fn.results = #[.cell p1 t1, .cell p2 t2]) (tmps : Array Value) (w : World) (g1 g2 : Nat) (u1 u2 : TypeId) (c1 c2 : Array Value) (d1 d2 : TypeDesc)
    (hp1 : tmps.getD p1 undef = .pointer (some ⟨g1, 0, none⟩)) (hg1 : w.heap[g1]? = some (.cells c1 u1 (0, 0))) (hu1 : P.underlying t1 = some d1) (hd1 : (match d1 with | .struct _ | .array _ _ => true | _ => false) = true) (hi1 : (P.info? t1).map (·.size) = some c1.size)
    (hp2 : tmps.getD p2 undef = .pointer (some ⟨g2, 0, none⟩)) (hg2 : w.heap[g2]? = some (.cells c2 u2 (0, 0))) (hu2 : P.underlying t2 = some d2) (hd2 : (match d2 with | .struct _ | .array _ _ => true | _ => false) = true) (hi2 : (P.info? t2).map (·.size) = some c2.size) :
    (results fn tmps).run P w = .ok (.tuple #[.agg c1, .agg c2]) w := by
  have hp1' : tmps[p1]?.getD undef = .pointer (some ⟨g1, 0, none⟩) := by simpa using hp1
  have hp2' : tmps[p2]?.getD undef = .pointer (some ⟨g2, 0, none⟩) := by simpa using hp2
  simp [results, h, hp1', hp2', asAddr, run_loadVar_row w g1 u1 t1 c1 (0, 0) d1 hg1 hu1 hd1 hi1, run_loadVar_row w g2 u2 t2 c2 (0, 0) d2 hg2 hu2 hd2 hi2]

theorem drew_heap (w : World) : w.drew.heap = w.heap := rfl

/-- The world behind extremes' last stores. -/
def exF (W : World) (L M : Nat) (a0 a1 a2 a3 b0 b1 b2 b3 : Value) : World :=
  ((((((((W.setCell ⟨L, 0, none⟩ a0).setCell ⟨L, 1, none⟩ a1).setCell ⟨L, 2, none⟩ a2).setCell ⟨L, 3, none⟩ a3).setCell ⟨M, 0, none⟩ b0).setCell ⟨M, 1, none⟩ b1).setCell ⟨M, 2, none⟩ b2).setCell ⟨M, 3, none⟩ b3).drew

theorem ex_end {w W : World} {L M D : Nat} {a0 a1 a2 a3 b0 b1 b2 b3 : Value} (hB : Below w.heap.size w W) (hLM : L ≠ M) (hL : w.heap.size ≤ L) (hM : w.heap.size ≤ M) (hD : w.heap.size ≤ D) {x0 x1 x2 x3 y0 y1 y2 y3 : Value}
    (bL : W.heap[L]? = some (.cells #[x0, x1, x2, x3] 112 (0, 0))) (bM : W.heap[M]? = some (.cells #[y0, y1, y2, y3] 112 (0, 0))) (hK : W.heap[D]? = some (.deferred (some []))) (tmps : Array Value) (h6 : tmps.getD 6 undef = .pointer (some ⟨L, 0, none⟩)) (h7 : tmps.getD 7 undef = .pointer (some ⟨M, 0, none⟩)) {V : Value}
    (hV : V = .tuple #[.agg #[a0, a1, a2, a3], .agg #[b0, b1, b2, b3]]) :
    bodyPostM Fence.wide 3 Try.prog Try.f64 (AllBelow V w) .ret { tmps := tmps, defers := [{ target := .collected D, args := #[] }] } (exF W L M a0 a1 a2 a3 b0 b1 b2 b3) := by
  have dL : D ≠ L := fun e => by rw [e, bL] at hK; cases hK
  have dM : D ≠ M := fun e => by rw [e, bM] at hK; cases hK
  have fL : (exF W L M a0 a1 a2 a3 b0 b1 b2 b3).heap[L]? = some (.cells #[a0, a1, a2, a3] 112 (0, 0)) := by rw [exF, drew_heap, put4_ne hLM, put4_at bL]
  have fM : (exF W L M a0 a1 a2 a3 b0 b1 b2 b3).heap[M]? = some (.cells #[b0, b1, b2, b3] 112 (0, 0)) := by rw [exF, drew_heap, put4_at (by rw [put4_ne hLM.symm]; exact bM)]
  have fD : (exF W L M a0 a1 a2 a3 b0 b1 b2 b3).heap[D]? = some (.deferred (some [])) := by rw [exF, drew_heap, put4_ne dM, put4_ne dL]; exact hK
  have fB : Below w.heap.size w (exF W L M a0 a1 a2 a3 b0 b1 b2 b3) :=
    Below.drew (Below.setCell (Below.setCell (Below.setCell (Below.setCell (Below.setCell (Below.setCell (Below.setCell (Below.setCell hB hL _) hL _) hL _) hL _) hM _) hM _) hM _) hM _)
  generalize exF W L M a0 a1 a2 a3 b0 b1 b2 b3 = Wf at *
  clear bL bM hK hB
  have hg := grownBy_putObj' Wf D (.deferred none)
  have hr : ∀ r, some D = some r → ∃ o : Obj, Wf.heap[r]? = some o ∧ o.isCells = false := fun r e => by cases e; exact ⟨_, fD, rfl⟩
  refine ⟨by simp, .inl ⟨_, _, rfl, run_takeDeferred fD, ?_⟩⟩
  have e1 : (Try.prog.info? 112).map (·.size) = some (#[a0, a1, a2, a3] : Array Value).size := by kernel_rfl
  have e2 : (Try.prog.info? 112).map (·.size) = some (#[b0, b1, b2, b3] : Array Value).size := by kernel_rfl
  have hres := results_two (P := Try.prog) (fn := Try.f64) (p1 := 6) (p2 := 7) (t1 := 112) (t2 := 112) rfl tmps (Wf.putObj D (.deferred none)) L M 112 112 _ _ _ _ h6 (blk_grown fL rfl hg hr) Try.underlying112 rfl e1 h7 (blk_grown fM rfl hg hr) Try.underlying112 rfl e2
  refine ⟨_, hres, by rw [hV], ?_⟩
  exact fB.trans ⟨hg.os, hg.tape, hg.output, hg.size, fun k hk => hg.block k (Nat.lt_of_lt_of_le hk fB.size) (fun e => by cases e; omega)⟩

set_option maxRecDepth 100000 in
set_option maxHeartbeats 6400000 in
theorem spans_extremes (vX vY vV : Value) (X Y : List Int) (V : List (List Int)) (xl xh yl yh : Int) (w : World) (hR : RT w vX vY vV X Y V) (hE : tableE X Y V = 0) (hx : xl ≤ xh) (hy : yl ≤ yh) (hlx : liesB X xl xh = true) (hly : liesB Y yl yh = true) :
    Calls Try.prog 64 #[.agg #[vX, vY, vV], .agg #[.int .i64 xl, .int .i64 xh], .agg #[.int .i64 yl, .int .i64 yh]] w
      (AllBelow (.tuple #[.agg (optC X Y V (leastO X Y V (grid (stopsL X xl xh) (stopsL Y yl yh)))), .agg (optC X Y V (mostO X Y V (grid (stopsL X xl xh) (stopsL Y yl yh))))]) w) := by
  refine (callsIn_wide (n := 3)).1 ?_
  refine callsIn_of_wp_marks Try.func64 rfl trivial ?_ rfl
  simp only [Try.ntmps64, List.size_toArray, List.length_cons, List.length_nil, Nat.reduceAdd, Nat.reduceSub, Array.replicate_succ, Array.replicate_zero, List.push_toArray, List.append_toArray, List.nil_append, List.cons_append]
  gi_wp2_with fail
  refine ⟨trivial, (callsIn_wide.2 (spans_corners vX vY vV xl xh yl yh _)).mono ?_⟩
  rintro e w1 ⟨rfl, rfl⟩
  gi_wp2_with fail
  change Code.wpIn _ _ _ _ _ _ (exW vX vY vV xl xh yl yh w)
  have z0 := exW_size vX vY vV xl xh yl yh w
  have z1 := exW_below vX vY vV xl xh yl yh w
  obtain ⟨z3, z4, z5, z6, z7, z8⟩ := exW_blocks vX vY vV xl xh yl yh w
  generalize exW vX vY vV xl xh yl yh w = W0 at *
  have hC : CoAt vX vY vV X Y V xl xh yl yh w (w.heap.size + 6) (w.heap.size + 7) (w.heap.size + 8) W0 := ⟨z1, z6, z7, z8⟩
  have hseq : SeqStopsK Fence.wide (3 - 1) Try.prog 104 #[.pointer (some ⟨w.heap.size + 6, 0, none⟩), .pointer (some ⟨w.heap.size + 7, 0, none⟩), .pointer (some ⟨w.heap.size + 8, 0, none⟩)] (encs X Y V)
      (Kx w.heap.size [w.heap.size + 3, w.heap.size + 4, w.heap.size + 5]) (fun ys => ys = grid (stopsL X xl xh) (stopsL Y yl yh)) (fun _ => True) ((stopsL X xl xh).length * (stopsL Y yl yh).length) W0 := by
    intro l J Jx W hW hJ hJx hY h0
    refine (corners_in (3 - 1) (by decide) vX vY vV X Y V xl xh yl yh w (w.heap.size + 6) (w.heap.size + 7) (w.heap.size + 8) [w.heap.size + 3, w.heap.size + 4, w.heap.size + 5] hR hE hx hy hlx hly (by simp) (by simp) (by simp) l J Jx W
      (by intro b hb; have := hW.size; simp at hb; omega) hJ hY (hC.kx (bad := [w.heap.size + 3, w.heap.size + 4, w.heap.size + 5]) (Kx.of_below hW (by omega)) (by simp) (by simp) (by simp)) h0).mono ?_
    rintro e W' ⟨he, h | ⟨pre, h⟩⟩
    · exact ⟨he, Or.inl h⟩
    · exact ⟨he, Or.inr ⟨pre, trivial, h⟩⟩
  refine wpIn_rangeFunc_ownH rfl (by decide) (gf := 104) (lb := #[.pointer (some ⟨w.heap.size + 6, 0, none⟩), .pointer (some ⟨w.heap.size + 7, 0, none⟩), .pointer (some ⟨w.heap.size + 8, 0, none⟩)]) rfl trivial (enters_of Try.func104 (by kernel_rfl) rfl) hseq
    (fun h k => h.trans k) (kx_putObj (by omega)) (Below.refl _ _) (fun _ => rfl) (ExAt X Y V w (w.heap.size + 3) (w.heap.size + 4) (w.heap.size + 5)) (fun _ _ _ => False) (ExAt.own X Y V w _ _ _ _ (by omega)) (fun c s W W' row h => h.elim)
    ⟨z1, z3, z4, z5, by omega⟩ (fun x a' W => ∃ Bx, W0.heap.size ≤ Bx ∧ W.heap[Bx]? = some (.cells (ptC X Y V (onP X Y x)) 112 (0, 0)) ∧ a' = {
      tmps := #[.agg #[vX, vY, vV], .agg #[.int .i64 xl, .int .i64 xh], .agg #[.int .i64 yl, .int .i64 yh], .pointer (some ⟨w.heap.size, 0, none⟩), .pointer (some ⟨w.heap.size + 1, 0, none⟩), .pointer (some ⟨w.heap.size + 1 + 1, 0, none⟩), .pointer (some ⟨w.heap.size + 3, 0, none⟩), .pointer (some ⟨w.heap.size + 4, 0, none⟩), .pointer (some ⟨w.heap.size + 5, 0, none⟩), .pointer (some ⟨Bx, 0, none⟩),
        .agg #[vX, vY, vV], .agg #[.int .i64 xl, .int .i64 xh], .agg #[.int .i64 yl, .int .i64 yh], .func (.func 104) #[] #[.pointer (some ⟨w.heap.size + 6, 0, none⟩), .pointer (some ⟨w.heap.size + 7, 0, none⟩), .pointer (some ⟨w.heap.size + 8, 0, none⟩)], .agg (ptC X Y V (onP X Y x)),
        undef, undef, undef, undef, undef, undef, undef, undef, undef, undef, undef, undef, undef, undef, undef, undef, undef, undef, undef, undef, undef, undef, undef, undef], defers := [] }) ?hAx ?assign ?body ?done ?stop
  case hAx =>
    rintro x a' s W W' row ⟨Bx, h1, h2, h3⟩ hg hr
    exact ⟨Bx, h1, blk_grown h2 rfl hg (fun r e => (hr r e).2), h3⟩
  case assign =>
    intro l pre x W K hI hK
    have hsz := hI.below.size
    simp only [encs, ptV]
    gi_wp2
    refine hK _ _ ((KeepsOthers.alloc _ _).from _) (Kx.of_below ((Below.refl _ _).alloc (Nat.le_refl _) _) hsz) ?_ ⟨W.heap.size, ?_, heap_alloc_new W _, rfl⟩
    · exact ⟨hI.below.alloc hsz _, heap_alloc_old hI.bL, heap_alloc_old hI.bM, heap_alloc_old hI.bG, by have := hI.sz; simp; omega⟩
    · have := hI.sz; omega
  case body =>
    rintro l pre x a' W hl ⟨r, hr⟩ hI ⟨Bx, hBx, bX, rfl⟩ hlt
    have hx := onP_on hE x
    obtain ⟨x1, x2, x3, x4⟩ := at_bounds hE hx
    obtain ⟨p, hp⟩ : ∃ p, p = onP X Y x := ⟨_, rfl⟩
    rw [← hp] at x1 x2 x3 x4 bX
    have HP := Lib.hid hp
    clear hp hx
    have HI := Lib.hid hI
    have c0 := (blk_cells bX 0).1
    have c1 := (blk_cells bX 1).1
    have c2 := (blk_cells bX 2).1
    have c3 := (blk_cells bX 3).1
    simp [ptC] at c0 c1 c2 c3
    have gG := (blk_cells hI.bG 0).1
    have gF := (blk_cells hI.bG 0).2
    simp at gG
    clear hI
    have L0 := blk_cells HI.out.bL 0
    have L1 := blk_cells HI.out.bL 1
    have L2 := blk_cells HI.out.bL 2
    have L3 := blk_cells HI.out.bL 3
    have M0 := blk_cells HI.out.bM 0
    have M1 := blk_cells HI.out.bM 1
    have M2 := blk_cells HI.out.bM 2
    have M3 := blk_cells HI.out.bM 3
    have hBx2 : Bx ≠ w.heap.size + 3 := by omega
    have hBx3 : Bx ≠ w.heap.size + 4 := by omega
    have hBx4 : Bx ≠ w.heap.size + 5 := by omega
    cases pre with
    | nil =>
      simp [optC, leastO, mostO] at gG L0 L1 L2 L3 M0 M1 M2 M3
      obtain ⟨L0, FL0⟩ := L0; obtain ⟨L1, FL1⟩ := L1; obtain ⟨L2, FL2⟩ := L2; obtain ⟨L3, FL3⟩ := L3
      obtain ⟨M0, FM0⟩ := M0; obtain ⟨M1, FM1⟩ := M1; obtain ⟨M2, FM2⟩ := M2; obtain ⟨M3, FM3⟩ := M3
      gi_wp2_with fail
      refine ⟨trivial, ?_⟩
      gi_wp2_with fail
      refine ⟨trivial, ?_⟩
      gi_wp2
      refine ex_fin HI.out (by omega) (by omega) (by omega) ((((((((((Chg.refl _ _).set (by simp) _).set (by simp) _).set (by simp) _).set (by simp) _).set (by simp) _).set (by simp) _).set (by simp) _).set (by simp) _).set (by simp) _) ?_ ?_ ?_
      · rw [heap_setCell_ne (by omega), put4_ne (by omega), put4_at HI.out.bL]; simp [leastO, lstep, optC, ptC, ← HP.out]
      · rw [heap_setCell_ne (by omega), put4_at (by rw [put4_ne (by omega)]; exact HI.out.bM)]; simp [mostO, mstep, optC, ptC, ← HP.out]
      · rw [put1_at (by rw [put4_ne (by omega), put4_ne (by omega)]; exact HI.out.bG)]
    | cons a pre =>
      obtain ⟨q, hq, hqT⟩ := leastO_some hE (a :: pre) none (fun _ h => by cases h) (Or.inl (by simp))
      obtain ⟨r', hr', hrT⟩ := mostO_some hE (a :: pre) none (fun _ h => by cases h) (Or.inl (by simp))
      change leastO X Y V (a :: pre) = some q at hq
      change mostO X Y V (a :: pre) = some r' at hr'
      obtain ⟨q1, q2, q3, q4⟩ := at_bounds hE hqT
      obtain ⟨r1, r2, r3, r4⟩ := at_bounds hE hrT
      have bL := HI.out.bL
      have bM := HI.out.bM
      rw [hq] at L0 L1 L2 L3 bL
      rw [hr'] at M0 M1 M2 M3 bM
      simp [optC, ptC] at gG L0 L1 L2 L3 M0 M1 M2 M3
      obtain ⟨L0, FL0⟩ := L0; obtain ⟨L1, FL1⟩ := L1; obtain ⟨L2, FL2⟩ := L2; obtain ⟨L3, FL3⟩ := L3
      obtain ⟨M0, FM0⟩ := M0; obtain ⟨M1, FM1⟩ := M1; obtain ⟨M2, FM2⟩ := M2; obtain ⟨M3, FM3⟩ := M3
      have Hq := Lib.hid hq
      have Hr := Lib.hid hr'
      clear hq hr' hqT hrT
      gi_wp2_with fail
      refine ⟨trivial, (callsIn_wide.2 (value_compare _ _ _ _ _ x1 x2 x3 x4 q1 q2 q3 q4)).mono ?_⟩
      rintro e W1 ⟨rfl, hb1⟩
      have bL1 := blk_below bL hb1
      have bM1 := blk_below bM hb1
      have bG1 := blk_below HI.out.bG hb1
      have bX1 := blk_below bX hb1
      have hC1 : Chg [w.heap.size + 3, w.heap.size + 4, w.heap.size + 5] W W1 := Chg.of_below hb1
      clear hb1 bL bM bX
      clear gG gF L0 L1 L2 L3 M0 M1 M2 M3 FL0 FL1 FL2 FL3 FM0 FM1 FM2 FM3 c0 c1 c2 c3
      have L0 := blk_cells bL1 0
      have L1 := blk_cells bL1 1
      have L2 := blk_cells bL1 2
      have L3 := blk_cells bL1 3
      have M0 := blk_cells bM1 0
      have M1 := blk_cells bM1 1
      have M2 := blk_cells bM1 2
      have M3 := blk_cells bM1 3
      have gG := (blk_cells bG1 0).1
      have gF := (blk_cells bG1 0).2
      have c0 := (blk_cells bX1 0).1
      have c1 := (blk_cells bX1 1).1
      have c2 := (blk_cells bX1 2).1
      have c3 := (blk_cells bX1 3).1
      simp [optC, ptC] at gG L0 L1 L2 L3 M0 M1 M2 M3 c0 c1 c2 c3
      obtain ⟨L0, FL0⟩ := L0
      obtain ⟨L1, FL1⟩ := L1
      obtain ⟨L2, FL2⟩ := L2
      obtain ⟨L3, FL3⟩ := L3
      obtain ⟨M0, FM0⟩ := M0
      obtain ⟨M1, FM1⟩ := M1
      obtain ⟨M2, FM2⟩ := M2
      obtain ⟨M3, FM3⟩ := M3
      by_cases h1 : cmpV (atN X Y V p.1 p.2) (atD X Y p.1 p.2) (atN X Y V q.1 q.2) (atD X Y q.1 q.2) < 0
      · gi_wp2_with fail
        refine ⟨trivial, (callsIn_wide.2 (value_compare _ _ _ _ _ x1 x2 x3 x4 r1 r2 r3 r4)).mono ?_⟩
        rintro e W2 ⟨rfl, hb2⟩
        have bL2 := blk_below (put4_at bL1 (.int .i64 p.1) (.int .i64 p.2) (.int .i64 (atN X Y V p.1 p.2)) (.int .i64 (atD X Y p.1 p.2))) hb2
        have bM2 := blk_below ((put4_ne (by omega) (Value.int .i64 p.1) (Value.int .i64 p.2) (Value.int .i64 (atN X Y V p.1 p.2)) (Value.int .i64 (atD X Y p.1 p.2))).trans bM1) hb2
        have bG2 := blk_below ((put4_ne (by omega) (Value.int .i64 p.1) (Value.int .i64 p.2) (Value.int .i64 (atN X Y V p.1 p.2)) (Value.int .i64 (atD X Y p.1 p.2))).trans bG1) hb2
        have bX2 := blk_below ((put4_ne (by omega) (Value.int .i64 p.1) (Value.int .i64 p.2) (Value.int .i64 (atN X Y V p.1 p.2)) (Value.int .i64 (atD X Y p.1 p.2))).trans bX1) hb2
        have hC2 := ((((hC1.set (b := w.heap.size + 3) (j := 0) (by simp) (.int .i64 p.1)).set (b := w.heap.size + 3) (j := 1) (by simp) (.int .i64 p.2)).set (b := w.heap.size + 3) (j := 2) (by simp) (.int .i64 (atN X Y V p.1 p.2))).set (b := w.heap.size + 3) (j := 3) (by simp) (.int .i64 (atD X Y p.1 p.2))).trans (Chg.of_below hb2)
        clear hb2 bL1 bM1 bG1 bX1 hC1
        clear gG gF L0 L1 L2 L3 M0 M1 M2 M3 FL0 FL1 FL2 FL3 FM0 FM1 FM2 FM3 c0 c1 c2 c3
        have L0 := blk_cells bL2 0
        have L1 := blk_cells bL2 1
        have L2 := blk_cells bL2 2
        have L3 := blk_cells bL2 3
        have M0 := blk_cells bM2 0
        have M1 := blk_cells bM2 1
        have M2 := blk_cells bM2 2
        have M3 := blk_cells bM2 3
        have gG := (blk_cells bG2 0).1
        have gF := (blk_cells bG2 0).2
        have c0 := (blk_cells bX2 0).1
        have c1 := (blk_cells bX2 1).1
        have c2 := (blk_cells bX2 2).1
        have c3 := (blk_cells bX2 3).1
        simp [optC, ptC] at gG L0 L1 L2 L3 M0 M1 M2 M3 c0 c1 c2 c3
        obtain ⟨L0, FL0⟩ := L0
        obtain ⟨L1, FL1⟩ := L1
        obtain ⟨L2, FL2⟩ := L2
        obtain ⟨L3, FL3⟩ := L3
        obtain ⟨M0, FM0⟩ := M0
        obtain ⟨M1, FM1⟩ := M1
        obtain ⟨M2, FM2⟩ := M2
        obtain ⟨M3, FM3⟩ := M3
        by_cases h2 : 0 < cmpV (atN X Y V p.1 p.2) (atD X Y p.1 p.2) (atN X Y V r'.1 r'.2) (atD X Y r'.1 r'.2)
        · gi_wp2
          refine ex_fin HI.out (by omega) (by omega) (by omega) ((((((hC2).set (by simp) _).set (by simp) _).set (by simp) _).set (by simp) _).set (by simp) _) ?_ ?_ ?_
          · rw [heap_setCell_ne (by omega), put4_ne (by omega), bL2, Hq.out]; rw [lstep_lt HP.out h1]; try rfl
          · rw [heap_setCell_ne (by omega), put4_at bM2, Hr.out]; rw [mstep_gt HP.out h2]; try rfl
          · rw [put1_at (by rw [put4_ne (by omega)]; exact bG2)]
        · gi_wp2
          refine ex_fin HI.out (by omega) (by omega) (by omega) ((hC2).set (by simp) _) ?_ ?_ ?_
          · rw [heap_setCell_ne (by omega), bL2, Hq.out]; rw [lstep_lt HP.out h1]; try rfl
          · rw [heap_setCell_ne (by omega), bM2, Hr.out]; rw [mstep_le HP.out (by omega)]; try rfl
          · rw [put1_at bG2]
      · gi_wp2_with fail
        refine ⟨trivial, (callsIn_wide.2 (value_compare _ _ _ _ _ x1 x2 x3 x4 r1 r2 r3 r4)).mono ?_⟩
        rintro e W2 ⟨rfl, hb2⟩
        have bL2 := blk_below bL1 hb2
        have bM2 := blk_below bM1 hb2
        have bG2 := blk_below bG1 hb2
        have bX2 := blk_below bX1 hb2
        have hC2 := hC1.trans (Chg.of_below hb2)
        clear hb2 bL1 bM1 bG1 bX1 hC1
        clear gG gF L0 L1 L2 L3 M0 M1 M2 M3 FL0 FL1 FL2 FL3 FM0 FM1 FM2 FM3 c0 c1 c2 c3
        have L0 := blk_cells bL2 0
        have L1 := blk_cells bL2 1
        have L2 := blk_cells bL2 2
        have L3 := blk_cells bL2 3
        have M0 := blk_cells bM2 0
        have M1 := blk_cells bM2 1
        have M2 := blk_cells bM2 2
        have M3 := blk_cells bM2 3
        have gG := (blk_cells bG2 0).1
        have gF := (blk_cells bG2 0).2
        have c0 := (blk_cells bX2 0).1
        have c1 := (blk_cells bX2 1).1
        have c2 := (blk_cells bX2 2).1
        have c3 := (blk_cells bX2 3).1
        simp [optC, ptC] at gG L0 L1 L2 L3 M0 M1 M2 M3 c0 c1 c2 c3
        obtain ⟨L0, FL0⟩ := L0
        obtain ⟨L1, FL1⟩ := L1
        obtain ⟨L2, FL2⟩ := L2
        obtain ⟨L3, FL3⟩ := L3
        obtain ⟨M0, FM0⟩ := M0
        obtain ⟨M1, FM1⟩ := M1
        obtain ⟨M2, FM2⟩ := M2
        obtain ⟨M3, FM3⟩ := M3
        by_cases h2 : 0 < cmpV (atN X Y V p.1 p.2) (atD X Y p.1 p.2) (atN X Y V r'.1 r'.2) (atD X Y r'.1 r'.2)
        · gi_wp2
          refine ex_fin HI.out (by omega) (by omega) (by omega) ((((((hC2).set (by simp) _).set (by simp) _).set (by simp) _).set (by simp) _).set (by simp) _) ?_ ?_ ?_
          · rw [heap_setCell_ne (by omega), put4_ne (by omega), bL2, Hq.out]; rw [lstep_ge HP.out (by omega)]; try rfl
          · rw [heap_setCell_ne (by omega), put4_at bM2, Hr.out]; rw [mstep_gt HP.out h2]; try rfl
          · rw [put1_at (by rw [put4_ne (by omega)]; exact bG2)]
        · gi_wp2
          refine ex_fin HI.out (by omega) (by omega) (by omega) ((hC2).set (by simp) _) ?_ ?_ ?_
          · rw [heap_setCell_ne (by omega), bL2, Hq.out]; rw [lstep_ge HP.out (by omega)]; try rfl
          · rw [heap_setCell_ne (by omega), bM2, Hr.out]; rw [mstep_le HP.out (by omega)]; try rfl
          · rw [put1_at bG2]
  case done =>
    rintro D ys W hD rfl hI hDef
    obtain ⟨q, hq, hqT⟩ := leastO_some hE (grid (stopsL X xl xh) (stopsL Y yl yh)) none (fun _ h => by cases h) (Or.inl (by simp [grid, stopsL]))
    obtain ⟨r', hr', hrT⟩ := mostO_some hE (grid (stopsL X xl xh) (stopsL Y yl yh)) none (fun _ h => by cases h) (Or.inl (by simp [grid, stopsL]))
    change leastO X Y V _ = some q at hq
    change mostO X Y V _ = some r' at hr'
    have bL := hI.bL
    have bM := hI.bM
    rw [hq] at bL
    rw [hr'] at bM
    have Hq := Lib.hid hq
    have Hr := Lib.hid hr'
    have BL := Lib.hid bL
    have BM := Lib.hid bM
    have DL := Lib.hid (show D ≠ w.heap.size + 3 from fun e => by rw [e, bL] at hDef; cases hDef)
    have DM := Lib.hid (show D ≠ w.heap.size + 4 from fun e => by rw [e, bM] at hDef; cases hDef)
    have HDef := Lib.hid hDef
    have HD := Lib.hid hD
    clear hDef hD
    have hB := hI.below
    have L0 := blk_cells bL 0
    have L1 := blk_cells bL 1
    have L2 := blk_cells bL 2
    have L3 := blk_cells bL 3
    have M0 := blk_cells bM 0
    have M1 := blk_cells bM 1
    have M2 := blk_cells bM 2
    have M3 := blk_cells bM 3
    simp [optC, ptC] at L0 L1 L2 L3 M0 M1 M2 M3
    obtain ⟨L0, FL0⟩ := L0; obtain ⟨L1, FL1⟩ := L1; obtain ⟨L2, FL2⟩ := L2; obtain ⟨L3, FL3⟩ := L3
    obtain ⟨M0, FM0⟩ := M0; obtain ⟨M1, FM1⟩ := M1; obtain ⟨M2, FM2⟩ := M2; obtain ⟨M3, FM3⟩ := M3
    clear hq hr' hqT hrT
    gi_wp2_with fail
    refine wpIn_wide.2 ?_
    go_region
    gi_wp2_with fail
    exact ex_end (W := W) (L := w.heap.size + 3) (M := w.heap.size + 4) hB (by omega) (by omega) (by omega) (by have := HD.out; omega) BL.out BM.out HDef.out _ rfl rfl (by rw [Hq.out, Hr.out]; rfl)
  case stop =>
    intro D c pre W _ _ h
    exact h.elim

end Go.Proofs.Ytliddinpfgpnfaa
