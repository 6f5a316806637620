/- The plain law of a table: its value at a point of a box lies above the least of the values at the box's corners. -/
import Derived.Test.YtliddinpfgpnfaaR3
namespace Go.Proofs.Ytliddinpfgpnfaa
open Go.RowKit

/-- The value of a table at a point, by the knots i and k: a fraction. -/
def valN (X Y : List Int) (V : List (List Int)) (i k : Nat) (x y : Int) : Int :=
  (kn X (i + 1) - x) * (kn Y (k + 1) - y) * vv V i k + (x - kn X i) * (kn Y (k + 1) - y) * vv V (i + 1) k + (kn X (i + 1) - x) * (y - kn Y k) * vv V i (k + 1) + (x - kn X i) * (y - kn Y k) * vv V (i + 1) (k + 1)
def valD (X Y : List Int) (i k : Nat) : Int := (kn X (i + 1) - kn X i) * (kn Y (k + 1) - kn Y k)

theorem atN_val (X Y : List Int) (V : List (List Int)) (x y : Int) : atN X Y V x y = valN X Y V (cellN X x) (cellN Y y) x y := rfl
theorem atD_val (X Y : List Int) (x y : Int) : atD X Y x y = valD X Y (cellN X x) (cellN Y y) := rfl

/-- Its whole part, by the knots; and as the program computes it. -/
def fv (X Y : List Int) (V : List (List Int)) (i k : Nat) (x y : Int) : Int := valN X Y V i k x y / valD X Y i k
def flo (X Y : List Int) (V : List (List Int)) (x y : Int) : Int := atN X Y V x y / atD X Y x y
/-- Rounded up. -/
def uv (X Y : List Int) (V : List (List Int)) (i k : Nat) (x y : Int) : Int := upV (valN X Y V i k x y) (valD X Y i k)

theorem ediv_le_cross {n1 d1 n2 d2 : Int} (h1 : 0 < d1) (h2 : 0 < d2) (h : n1 * d2 ≤ n2 * d1) : n1 / d1 ≤ n2 / d2 := by
  have a1 := Int.ediv_mul_le n1 (show d1 ≠ 0 by omega)
  rw [Int.le_ediv_iff_mul_le h2]
  have a2 := Int.mul_le_mul_of_nonneg_right a1 (show 0 ≤ d2 by omega)
  have a3 : n1 / d1 * d2 * d1 ≤ n2 * d1 := by
    have e : n1 / d1 * d2 * d1 = n1 / d1 * d1 * d2 := by rw [Int.mul_assoc, Int.mul_comm d2 d1, ← Int.mul_assoc]
    omega
  exact Int.le_of_mul_le_mul_right a3 h1
theorem ediv_cross {n1 d1 n2 d2 : Int} (h1 : 0 < d1) (h2 : 0 < d2) (h : n1 * d2 = n2 * d1) : n1 / d1 = n2 / d2 :=
  Int.le_antisymm (ediv_le_cross h1 h2 (by omega)) (ediv_le_cross h2 h1 (by omega))

theorem ups_upto (zs : List Int) (hs : Sorted zs) (x : Int) : upto zs x ≤ zs.length ∧ (∀ m z, m < upto zs x → zs[m]? = some z → z ≤ x) ∧ (∀ m z, upto zs x ≤ m → zs[m]? = some z → x < z) := by
  induction zs with
  | nil => exact ⟨Nat.le_refl _, fun m z _ h => by simp at h, fun m z _ h => by simp at h⟩
  | cons a zs ih =>
    have hs' : Sorted zs := fun i j y z hij hy hz => hs (i + 1) (j + 1) y z (by omega) (by simpa using hy) (by simpa using hz)
    obtain ⟨h2, h3, h4⟩ := ih hs'
    by_cases ha : a ≤ x
    · have e : upto (a :: zs) x = upto zs x + 1 := by simp [upto, ha]
      rw [e]
      refine ⟨by simpa using h2, fun m z hm hz => ?_, fun m z hm hz => ?_⟩
      · cases m with
        | zero => simp at hz; omega
        | succ m => exact h3 m z (by omega) (by simpa using hz)
      · cases m with
        | zero => omega
        | succ m => exact h4 m z (by omega) (by simpa using hz)
    · have hall : ∀ (m : Nat) (z : Int), (a :: zs)[m]? = some z → x < z := by
        intro m z hz
        cases m with
        | zero => simp at hz; omega
        | succ m => have := hs 0 (m + 1) a z (by omega) (by simp) hz; omega
      have e : upto (a :: zs) x = 0 := by
        simp only [upto, List.length_eq_zero_iff, List.filter_eq_nil_iff]
        intro z hz
        obtain ⟨m, hm⟩ := List.getElem?_of_mem hz
        have := hall m z hm
        simp; omega
      rw [e]
      exact ⟨Nat.zero_le _, fun m z hm => by omega, fun m z _ hz => hall m z hz⟩

theorem cellR_at {X : List Int} (h : axB X = true) {x : Int} (h0 : hd X ≤ x) (h1 : x ≤ la X) :
    cellR X x + 1 < X.length ∧ kn X (cellR X x) ≤ x ∧ x ≤ kn X (cellR X x + 1) := by
  have hl := axB_len h
  obtain ⟨a2, a3, a4⟩ := ups_upto (inner X) (inner_sorted h) x
  rw [inner_len] at a2
  refine ⟨by unfold cellR; omega, ?_, ?_⟩
  · cases e : cellR X x with
    | zero => exact h0
    | succ m => exact a3 m (kn X (m + 1)) (by unfold cellR at e; omega) (inner_get X m (by unfold cellR at e; omega))
  · by_cases e : cellR X x < X.length - 2
    · have := a4 _ _ (Nat.le_refl _) (inner_get X _ e); unfold cellR; omega
    · have : cellR X x + 1 = X.length - 1 := by unfold cellR at *; omega
      rw [this]
      exact h1

/-- A number lies in a part of an axis, its ends with it. -/
structure InC (X : List Int) (i : Nat) (x : Int) : Prop where
  lt : i + 1 < X.length
  lo : kn X i ≤ x
  hi : x ≤ kn X (i + 1)

theorem InC.cellN {X : List Int} (h : axB X = true) {x : Int} (h0 : hd X ≤ x) (h1 : x ≤ la X) : InC X (cellN X x) x := by
  obtain ⟨a, b, c⟩ := cell_at h h0 h1; exact ⟨a, b, c⟩
theorem InC.cellR {X : List Int} (h : axB X = true) {x : Int} (h0 : hd X ≤ x) (h1 : x ≤ la X) : InC X (cellR X x) x := by
  obtain ⟨a, b, c⟩ := cellR_at h h0 h1; exact ⟨a, b, c⟩
theorem InC.on {X : List Int} (h : axB X = true) {i : Nat} {x : Int} (hc : InC X i x) : hd X ≤ x ∧ x ≤ la X := by
  have l := hc.lt
  have a1 := kn_le h 0 i (by omega) (by omega)
  have a2 := kn_le h (i + 1) (X.length - 1) (by omega) (by omega)
  have b1 := hc.lo
  have b2 := hc.hi
  change kn X 0 ≤ x ∧ x ≤ kn X (X.length - 1)
  omega

theorem cellN_of {X : List Int} (h : axB X = true) {i : Nat} {x : Int} (hc : InC X i x) : Go.Proofs.Ytliddinpfgpnfaa.cellN X x = i ∨ (Go.Proofs.Ytliddinpfgpnfaa.cellN X x + 1 = i ∧ x = kn X i) := by
  obtain ⟨h0, h1⟩ := hc.on h
  obtain ⟨n1, n2, n3⟩ := cell_at h h0 h1
  obtain ⟨c1, c2, c3⟩ := hc
  obtain ⟨_, _, a3, _⟩ := lows_below (inner X) (inner_sorted h) x
  change ∀ m z, m < Go.Proofs.Ytliddinpfgpnfaa.cellN X x → _ at a3
  generalize Go.Proofs.Ytliddinpfgpnfaa.cellN X x = n at *
  rcases Nat.lt_trichotomy n i with g | g | g
  · by_cases e : n + 1 = i
    · subst e; exact Or.inr ⟨rfl, by omega⟩
    · have := kn_lt h i (n + 1) (by omega) (by omega); omega
  · exact Or.inl g
  · by_cases e : n = i + 1
    · subst e
      have := a3 i (kn X (i + 1)) (by omega) (inner_get X i (by omega))
      omega
    · have := kn_lt h n (i + 1) (by omega) (by omega); omega

theorem valD_pos {X Y : List Int} (hX : axB X = true) (hY : axB Y = true) {i k : Nat} (hi : i + 1 < X.length) (hk : k + 1 < Y.length) : 0 < valD X Y i k :=
  Int.mul_pos (by have := (kn_step hX i hi).1; omega) (by have := (kn_step hY k hk).1; omega)

theorem next_x {X Y : List Int} (V : List (List Int)) (i k : Nat) (y : Int) : valN X Y V i k (kn X (i + 1)) y * valD X Y (i + 1) k = valN X Y V (i + 1) k (kn X (i + 1)) y * valD X Y i k := by
  unfold valN valD; grind
theorem next_y {X Y : List Int} (V : List (List Int)) (i k : Nat) (x : Int) : valN X Y V i k x (kn Y (k + 1)) * valD X Y i (k + 1) = valN X Y V i (k + 1) x (kn Y (k + 1)) * valD X Y i k := by
  unfold valN valD; grind

theorem up_cross {n1 d1 n2 d2 : Int} (h1 : 0 < d1) (h2 : 0 < d2) (h : n1 * d2 = n2 * d1) : upV n1 d1 = upV n2 d2 := by
  unfold upV
  rw [ediv_cross h1 h2 (show -n1 * d2 = -n2 * d1 by rw [Int.neg_mul, Int.neg_mul, h])]

/-- The fraction that the program computes is, as a number, that of each part that has the point. -/
theorem at_cross {X Y : List Int} (V : List (List Int)) (hX : axB X = true) (hY : axB Y = true) {i k : Nat} {x y : Int} (hi : InC X i x) (hk : InC Y k y) :
    flo X Y V x y = fv X Y V i k x y ∧ upV (atN X Y V x y) (atD X Y x y) = uv X Y V i k x y := by
  unfold flo fv uv
  rw [atN_val, atD_val]
  have cN := InC.cellN hX (hi.on hX).1 (hi.on hX).2
  have cM := InC.cellN hY (hk.on hY).1 (hk.on hY).2
  have s1 : valN X Y V (cellN X x) (cellN Y y) x y / valD X Y (cellN X x) (cellN Y y) = valN X Y V i (cellN Y y) x y / valD X Y i (cellN Y y) ∧
      upV (valN X Y V (cellN X x) (cellN Y y) x y) (valD X Y (cellN X x) (cellN Y y)) = upV (valN X Y V i (cellN Y y) x y) (valD X Y i (cellN Y y)) := by
    rcases cellN_of hX hi with e | ⟨e, ex⟩
    · rw [e]; exact ⟨rfl, rfl⟩
    · have c := next_x (X := X) (Y := Y) V (cellN X x) (cellN Y y) y
      rw [e, ← ex] at c
      exact ⟨ediv_cross (valD_pos hX hY cN.lt cM.lt) (valD_pos hX hY hi.lt cM.lt) c, up_cross (valD_pos hX hY cN.lt cM.lt) (valD_pos hX hY hi.lt cM.lt) c⟩
  have s2 : valN X Y V i (cellN Y y) x y / valD X Y i (cellN Y y) = valN X Y V i k x y / valD X Y i k ∧ upV (valN X Y V i (cellN Y y) x y) (valD X Y i (cellN Y y)) = upV (valN X Y V i k x y) (valD X Y i k) := by
    rcases cellN_of hY hk with e | ⟨e, ey⟩
    · rw [e]; exact ⟨rfl, rfl⟩
    · have c := next_y (X := X) (Y := Y) V i (cellN Y y) x
      rw [e, ← ey] at c
      exact ⟨ediv_cross (valD_pos hX hY hi.lt cM.lt) (valD_pos hX hY hi.lt hk.lt) c, up_cross (valD_pos hX hY hi.lt cM.lt) (valD_pos hX hY hi.lt hk.lt) c⟩
  exact ⟨s1.1.trans s2.1, s1.2.trans s2.2⟩

theorem lin_x {X Y : List Int} (V : List (List Int)) (i k : Nat) (y : Int) : ∃ A B : Int, ∀ x, valN X Y V i k x y = A * x + B := by
  refine ⟨-((kn Y (k + 1) - y) * vv V i k) + (kn Y (k + 1) - y) * vv V (i + 1) k - (y - kn Y k) * vv V i (k + 1) + (y - kn Y k) * vv V (i + 1) (k + 1),
    kn X (i + 1) * (kn Y (k + 1) - y) * vv V i k - kn X i * (kn Y (k + 1) - y) * vv V (i + 1) k + kn X (i + 1) * (y - kn Y k) * vv V i (k + 1) - kn X i * (y - kn Y k) * vv V (i + 1) (k + 1), fun x => ?_⟩
  unfold valN; grind
theorem lin_y {X Y : List Int} (V : List (List Int)) (i k : Nat) (x : Int) : ∃ A B : Int, ∀ y, valN X Y V i k x y = A * y + B := by
  refine ⟨-((kn X (i + 1) - x) * vv V i k) - (x - kn X i) * vv V (i + 1) k + (kn X (i + 1) - x) * vv V i (k + 1) + (x - kn X i) * vv V (i + 1) (k + 1),
    (kn X (i + 1) - x) * kn Y (k + 1) * vv V i k + (x - kn X i) * kn Y (k + 1) * vv V (i + 1) k - (kn X (i + 1) - x) * kn Y k * vv V i (k + 1) - (x - kn X i) * kn Y k * vv V (i + 1) (k + 1), fun y => ?_⟩
  unfold valN; grind

theorem lin_min {f : Int → Int} (h : ∃ A B : Int, ∀ x, f x = A * x + B) {p x q d : Int} (hd : 0 < d) (h1 : p ≤ x) (h2 : x ≤ q) : f p / d ≤ f x / d ∨ f q / d ≤ f x / d := by
  obtain ⟨A, B, hf⟩ := h
  by_cases hA : 0 ≤ A
  · left
    refine Int.ediv_le_ediv hd ?_
    rw [hf, hf]
    have := Int.mul_le_mul_of_nonneg_left h1 hA
    omega
  · right
    refine Int.ediv_le_ediv hd ?_
    rw [hf, hf]
    have := Int.mul_le_mul_of_nonpos_left (show A ≤ 0 by omega) h2
    omega

theorem mem_stops {X : List Int} {lo hi x : Int} (h : x = lo ∨ (x ∈ X ∧ lo < x ∧ x < hi) ∨ (x = hi ∧ lo < hi)) : x ∈ stopsL X lo hi := by
  unfold stopsL
  rw [List.mem_append, List.mem_cons, List.mem_filter]
  rcases h with h | ⟨h1, h2, h3⟩ | ⟨rfl, h⟩
  · exact Or.inl (Or.inl h)
  · exact Or.inl (Or.inr ⟨h1, by simp [inB, h2, h3]⟩)
  · right; rw [if_pos h]; simp

theorem kn_mem {X : List Int} {k : Nat} (h : k < X.length) : kn X k ∈ X := List.mem_of_getElem? (kn_some h)

theorem stops_bd {X : List Int} {lo hi x : Int} (hl : lo ≤ hi) (h : x ∈ stopsL X lo hi) : lo ≤ x ∧ x ≤ hi := by
  unfold stopsL at h
  rw [List.mem_append, List.mem_cons, List.mem_filter] at h
  rcases h with (h | ⟨_, h⟩) | h
  · omega
  · simp [inB] at h; omega
  · split at h
    · simp at h; omega
    · simp at h

theorem stops_around {X : List Int} (hX : axB X = true) {lo hi x : Int} (h0 : hd X ≤ lo) (h1 : hi ≤ la X) (h2 : lo ≤ x) (h3 : x ≤ hi) :
    ∃ i p q, p ∈ stopsL X lo hi ∧ q ∈ stopsL X lo hi ∧ p ≤ x ∧ x ≤ q ∧ InC X i p ∧ InC X i q ∧ InC X i x := by
  have hc := InC.cellN hX (show hd X ≤ x by omega) (show x ≤ la X by omega)
  obtain ⟨c1, c2, c3⟩ := hc
  generalize cellN X x = i at *
  have hp : ∃ p, p ∈ stopsL X lo hi ∧ p ≤ x ∧ kn X i ≤ p := by
    by_cases e : kn X i ≤ lo
    · exact ⟨lo, mem_stops (Or.inl rfl), h2, e⟩
    · by_cases e2 : kn X i < hi
      · exact ⟨kn X i, mem_stops (Or.inr (Or.inl ⟨kn_mem (by omega), by omega, e2⟩)), c2, by omega⟩
      · exact ⟨hi, mem_stops (Or.inr (Or.inr ⟨rfl, by omega⟩)), by omega, by omega⟩
  have hq : ∃ q, q ∈ stopsL X lo hi ∧ x ≤ q ∧ q ≤ kn X (i + 1) := by
    by_cases e : hi ≤ kn X (i + 1)
    · by_cases e2 : lo < hi
      · exact ⟨hi, mem_stops (Or.inr (Or.inr ⟨rfl, e2⟩)), h3, e⟩
      · exact ⟨lo, mem_stops (Or.inl rfl), by omega, by omega⟩
    · by_cases e2 : lo < kn X (i + 1)
      · exact ⟨kn X (i + 1), mem_stops (Or.inr (Or.inl ⟨kn_mem c1, e2, by omega⟩)), c3, by omega⟩
      · exact ⟨lo, mem_stops (Or.inl rfl), by omega, by omega⟩
  obtain ⟨p, p1, p2, p3⟩ := hp
  obtain ⟨q, q1, q2, q3⟩ := hq
  exact ⟨i, p, q, p1, q1, p2, q2, ⟨c1, p3, by omega⟩, ⟨c1, by omega, q3⟩, ⟨c1, c2, c3⟩⟩

theorem mem_grid {xs ys : List Int} {x y : Int} : (x, y) ∈ grid xs ys ↔ x ∈ xs ∧ y ∈ ys := by
  unfold grid
  simp only [List.mem_flatMap, List.mem_map, Prod.mk.injEq]
  constructor
  · rintro ⟨a, ha, b, hb, rfl, rfl⟩; exact ⟨ha, hb⟩
  · rintro ⟨ha, hb⟩; exact ⟨x, ha, y, hb, rfl, rfl⟩

/-- A value of the box lies above that of a corner. -/
theorem flo_corner {X Y : List Int} (V : List (List Int)) (hX : axB X = true) (hY : axB Y = true) {xl xh yl yh x y : Int} (hlx : liesB X xl xh = true) (hly : liesB Y yl yh = true)
    (x1 : xl ≤ x) (x2 : x ≤ xh) (y1 : yl ≤ y) (y2 : y ≤ yh) : ∃ g ∈ grid (stopsL X xl xh) (stopsL Y yl yh), flo X Y V g.1 g.2 ≤ flo X Y V x y := by
  simp only [liesB, Bool.and_eq_true, decide_eq_true_eq] at hlx hly
  obtain ⟨i, p, q, mp, mq, px, xq, ip, iq, ix⟩ := stops_around hX hlx.1 hlx.2 x1 x2
  obtain ⟨k, r, s, mr, ms, ry, ys, kr, ks, ky⟩ := stops_around hY hly.1 hly.2 y1 y2
  have key : ∃ u v, u ∈ stopsL X xl xh ∧ InC X i u ∧ v ∈ stopsL Y yl yh ∧ InC Y k v ∧ fv X Y V i k u v ≤ fv X Y V i k x y := by
    have dp := valD_pos hX hY ix.lt ky.lt
    have h1 := lin_min (f := fun x => valN X Y V i k x y) (lin_x V i k y) dp px xq
    have h2 : ∀ u, valN X Y V i k u r / valD X Y i k ≤ valN X Y V i k u y / valD X Y i k ∨ valN X Y V i k u s / valD X Y i k ≤ valN X Y V i k u y / valD X Y i k := fun u =>
      lin_min (f := fun y => valN X Y V i k u y) (lin_y V i k u) dp ry ys
    unfold fv
    rcases h1 with h1 | h1
    · rcases h2 p with h3 | h3
      · exact ⟨p, r, mp, ip, mr, kr, Int.le_trans h3 h1⟩
      · exact ⟨p, s, mp, ip, ms, ks, Int.le_trans h3 h1⟩
    · rcases h2 q with h3 | h3
      · exact ⟨q, r, mq, iq, mr, kr, Int.le_trans h3 h1⟩
      · exact ⟨q, s, mq, iq, ms, ks, Int.le_trans h3 h1⟩
  obtain ⟨u, v, mu, iu, mv, kv, hle⟩ := key
  refine ⟨(u, v), mem_grid.2 ⟨mu, mv⟩, ?_⟩
  rw [(at_cross V hX hY iu kv).1, (at_cross V hX hY ix ky).1]
  exact hle

theorem cmp_flo {a b c d : Int} : (cmpV a b c d < 0 → a / b ≤ c / d) ∧ (¬ cmpV a b c d < 0 → c / d ≤ a / b) := by
  unfold cmpV
  split
  · constructor <;> intro h <;> omega
  · constructor <;> intro h <;> omega

theorem onP_same {X Y : List Int} {p : Int × Int} (h : OnT X Y p) : onP X Y p = p := by
  obtain ⟨a, b, c, d⟩ := h
  simp only [onP, cl]
  ext <;> simp <;> omega

theorem fold_least {X Y : List Int} (V : List (List Int)) (l : List (Int × Int)) : (∀ g ∈ l, OnT X Y g) → ∀ acc, ∃ r, (l.foldl (lstep X Y V) acc = r) ∧ (∀ q, r = some q → (q ∈ l ∨ acc = some q) ∧ (∀ g ∈ l, flo X Y V q.1 q.2 ≤ flo X Y V g.1 g.2) ∧ (∀ a, acc = some a → flo X Y V q.1 q.2 ≤ flo X Y V a.1 a.2)) := by
  induction l with
  | nil =>
    intro _ acc
    refine ⟨acc, rfl, fun q hq => ⟨Or.inr hq, ?_, ?_⟩⟩
    · intro g hg; simp at hg
    · intro a ha; rw [hq] at ha; cases ha; exact Int.le_refl _
  | cons p l ih =>
    intro hon acc
    obtain ⟨r, hr, h⟩ := ih (fun g hg => hon g (List.mem_cons_of_mem _ hg)) (lstep X Y V acc p)
    refine ⟨r, by rw [List.foldl_cons]; exact hr, fun q hq => ?_⟩
    obtain ⟨h1, h2, h3⟩ := h q hq
    have hp := onP_same (hon p (List.mem_cons_self ..))
    cases acc with
    | none =>
      have e : lstep X Y V none p = some p := by simp [lstep, hp]
      rw [e] at h1 h3
      have h4 := h3 p rfl
      refine ⟨?_, fun g hg => ?_, fun a ha => by cases ha⟩
      · rcases h1 with h1 | h1
        · exact Or.inl (List.mem_cons_of_mem _ h1)
        · cases h1; exact Or.inl (List.mem_cons_self ..)
      · rcases List.mem_cons.1 hg with rfl | hg
        · exact h4
        · exact h2 g hg
    | some a =>
      have c := @cmp_flo (atN X Y V p.1 p.2) (atD X Y p.1 p.2) (atN X Y V a.1 a.2) (atD X Y a.1 a.2)
      by_cases e : cmpP X Y V p a < 0
      · have e1 : lstep X Y V (some a) p = some p := by simp [lstep, hp, e]
        rw [e1] at h1 h3
        have h4 := h3 p rfl
        have c1 : flo X Y V p.1 p.2 ≤ flo X Y V a.1 a.2 := c.1 e
        refine ⟨?_, fun g hg => ?_, fun b hb => by cases hb; exact Int.le_trans h4 c1⟩
        · rcases h1 with h1 | h1
          · exact Or.inl (List.mem_cons_of_mem _ h1)
          · cases h1; exact Or.inl (List.mem_cons_self ..)
        · rcases List.mem_cons.1 hg with rfl | hg
          · exact h4
          · exact h2 g hg
      · have e1 : lstep X Y V (some a) p = some a := by simp [lstep, hp, e]
        rw [e1] at h1 h3
        have h4 := h3 a rfl
        have c1 : flo X Y V a.1 a.2 ≤ flo X Y V p.1 p.2 := c.2 e
        refine ⟨?_, fun g hg => ?_, fun b hb => by cases hb; exact h4⟩
        · rcases h1 with h1 | h1
          · exact Or.inl (List.mem_cons_of_mem _ h1)
          · exact Or.inr h1
        · rcases List.mem_cons.1 hg with rfl | hg
          · exact Int.le_trans h4 c1
          · exact h2 g hg

theorem grid_on {X Y : List Int} {xl xh yl yh : Int} (hlx : liesB X xl xh = true) (hly : liesB Y yl yh = true) (hx : xl ≤ xh) (hy : yl ≤ yh) : ∀ g ∈ grid (stopsL X xl xh) (stopsL Y yl yh), OnT X Y g := by
  simp only [liesB, Bool.and_eq_true, decide_eq_true_eq] at hlx hly
  rintro ⟨x, y⟩ hg
  obtain ⟨h1, h2⟩ := mem_grid.1 hg
  have a := stops_bd hx h1
  have b := stops_bd hy h2
  exact ⟨by show hd X ≤ x; omega, by show x ≤ la X; omega, by show hd Y ≤ y; omega, by show y ≤ la Y; omega⟩

/-- The least of a box is that of a corner, and no value of the box is below it. -/
theorem lowB_facts {X Y : List Int} {V : List (List Int)} (hE : tableE X Y V = 0) {xl xh yl yh : Int} (hlx : liesB X xl xh = true) (hly : liesB Y yl yh = true) (hx : xl ≤ xh) (hy : yl ≤ yh) :
    (∃ g ∈ grid (stopsL X xl xh) (stopsL Y yl yh), lowB X Y V xl xh yl yh = flo X Y V g.1 g.2) ∧ (∀ g ∈ grid (stopsL X xl xh) (stopsL Y yl yh), lowB X Y V xl xh yl yh ≤ flo X Y V g.1 g.2) := by
  have hon := grid_on hlx hly hx hy
  obtain ⟨q, hq, hqT⟩ := leastO_some hE (grid (stopsL X xl xh) (stopsL Y yl yh)) none (fun _ h => by cases h) (Or.inl (by simp [grid, stopsL]))
  obtain ⟨r, hr, h⟩ := fold_least V _ hon none
  rw [hq] at hr
  obtain ⟨h1, h2, _⟩ := h q hr.symm
  have e : lowB X Y V xl xh yl yh = flo X Y V q.1 q.2 := by
    have hq' : leastO X Y V (grid (stopsL X xl xh) (stopsL Y yl yh)) = some q := hq
    rw [lowB, hq']; rfl
  rw [e]
  rcases h1 with h1 | h1
  · exact ⟨⟨q, h1, rfl⟩, h2⟩
  · cases h1

theorem lowB_le {X Y : List Int} {V : List (List Int)} (hE : tableE X Y V = 0) {xl xh yl yh x y : Int} (hlx : liesB X xl xh = true) (hly : liesB Y yl yh = true) (x1 : xl ≤ x) (x2 : x ≤ xh) (y1 : yl ≤ y) (y2 : y ≤ yh) :
    lowB X Y V xl xh yl yh ≤ flo X Y V x y := by
  obtain ⟨hX, hY, _, _⟩ := tableE_zero hE
  obtain ⟨g, hg, h⟩ := flo_corner V hX hY hlx hly x1 x2 y1 y2
  exact Int.le_trans ((lowB_facts hE hlx hly (by omega) (by omega)).2 g hg) h

/-- The least of a box is the value at a point of it. -/
theorem lowB_at {X Y : List Int} {V : List (List Int)} (hE : tableE X Y V = 0) {xl xh yl yh : Int} (hlx : liesB X xl xh = true) (hly : liesB Y yl yh = true) (hx : xl ≤ xh) (hy : yl ≤ yh) :
    ∃ x y, xl ≤ x ∧ x ≤ xh ∧ yl ≤ y ∧ y ≤ yh ∧ lowB X Y V xl xh yl yh = flo X Y V x y := by
  obtain ⟨⟨⟨x, y⟩, hg, h⟩, _⟩ := lowB_facts hE hlx hly hx hy
  obtain ⟨h1, h2⟩ := mem_grid.1 hg
  have a := stops_bd hx h1
  have b := stops_bd hy h2
  exact ⟨x, y, a.1, a.2, b.1, b.2, h⟩

end Go.Proofs.Ytliddinpfgpnfaa
