/- Contracts: two values compared, the stops of a span. -/
import Derived.Test.YtliddinpfgpnfaaA12
import Derived.Test.YtliddinpfgpnfaaB2
namespace Go.Proofs.Ytliddinpfgpnfaa
open Go Go.RowKit Go.Sort
set_option linter.unusedSimpArgs false
set_option linter.unusedVariables false

def nz (n : Int) : Bool := n != 0
/-- The first number that is not 0, or 0. -/
def orV (zs : List Int) : Int := (zs.find? nz).getD 0

theorem orV_some {zs : List Int} {k : Nat} {x : Int} (h : noneTo nz zs k) (hx : zs[k]? = some x) (hp : nz x = true) : orV zs = x := by
  obtain ⟨hk, rfl⟩ := List.getElem?_eq_some_iff.1 hx
  have : zs.find? nz = some zs[k] := by
    rw [List.find?_eq_some_iff_getElem]
    exact ⟨hp, k, hk, rfl, fun j hj => by rw [h j _ hj (by simp)]; simp⟩
  simp [orV, this]
theorem orV_none {zs : List Int} {k : Nat} (h : noneTo nz zs k) (hk : ¬ k < zs.length) : orV zs = 0 := by
  have : zs.find? nz = none := by
    rw [List.find?_eq_none]
    intro x hx
    obtain ⟨j, hj, rfl⟩ := List.getElem_of_mem hx
    simp [h j _ (by omega) (List.getElem?_eq_getElem hj)]
  simp [orV, this]

set_option maxHeartbeats 1600000 in
theorem cmp_Or (v : Value) (zs : List Int) (w : World) (hR : RI w v zs) (hl : zs.length ≤ 1000000000000000000) :
    Calls Try.prog 106 #[v] w fun e w' => e = .returned (.int .i64 (orV zs)) ∧ w = w' := by
  obtain ⟨A, c, rfl, hc⟩ := hR.form
  go_enter Try.func106, Try.ntmps106
  go_wp2
  go_loop [8] (fun s8 => ∃ k : Nat, s8 = .int .i64 k ∧ k ≤ zs.length ∧ noneTo nz zs k) (fun s8 => zs.length - (intOf s8).toNat)
  case atStart => exact ⟨0, rfl, by omega, noneTo_zero _ _⟩
  case round =>
    obtain ⟨k, rfl, hk, hno⟩ := hrel
    by_cases hlt : k < zs.length
    · obtain ⟨b, o, c', x, e, hb, hx, hcell⟩ := hR.at hlt
      cases e
      have Hx := Lib.hid hx
      clear hx
      cases hp : (x != 0)
      · have hq := Lib.hid (show nz x = false from hp)
        go_wp2
        go_round
        case rel => exact ⟨k + 1, by go_num, by omega, noneTo_succ hno Hx.out hq.out⟩
        case measure => simp [intOf]; omega
      · have hq := Lib.hid (show nz x = true from hp)
        go_wp2
        go_ret
        exact ⟨ret_int (orV_some hno Hx.out hq.out).symm, rfl⟩
    · go_wp2
      go_ret
      exact ⟨ret_int (orV_none hno hlt).symm, rfl⟩

/-- How two fractions compare. -/
def cmpV (a b c d : Int) : Int := if a / b - c / d ≠ 0 then a / b - c / d else (a - a / b * b) * d - (c - c / d * d) * b

theorem cmpV_or (a b c d : Int) : orV [a / b - c / d, (a - a / b * b) * d - (c - c / d * d) * b] = cmpV a b c d := by
  simp only [orV, cmpV, List.find?_cons, nz]
  split
  · rename_i h; simp at h; rw [if_pos h]; rfl
  · rename_i h; simp at h
    rw [if_neg (by simpa using h)]
    split
    · rfl
    · rename_i h2; simp at h2; simp; omega

theorem RI.lit2 (w : World) (a b : Int) (T : TypeId) : RI (w.alloc (.cells #[.int .i64 a, .int .i64 b] T)) (.slice (some ⟨w.heap.size, 0, none⟩) 2 2) [a, b] :=
  ⟨_, 2, rfl, Nat.le_refl _, rfl, fun j u hu => ⟨w.heap.size, 0, rfl, by
    have e : (#[Value.int .i64 a, Value.int .i64 b] : Array Value)[j]? = some u := by simpa using hu
    simp only [World.cell?, heap_alloc_new, Nat.zero_add]
    exact e⟩⟩

theorem floor_facts (a b : Int) (ha : -1000000000000000 ≤ a) (ha' : a ≤ 1000000000000000) (hb : 1 ≤ b) : a / b * b ≤ a ∧ a < a / b * b + b ∧ -1000000000000000 ≤ a / b ∧ a / b ≤ 1000000000000000 := by
  have h1 := Int.ediv_mul_le a (show b ≠ 0 by omega)
  have h2 := Int.lt_ediv_add_one_mul_self a (show 0 < b by omega)
  rw [Int.add_mul] at h2
  have h3 : -1000000000000000 ≤ a / b := by
    rw [Int.le_ediv_iff_mul_le (by omega)]; omega
  have h4 : a / b ≤ 1000000000000000 := by
    have e1 := Int.ediv_le_ediv (show 0 < b by omega) ha'
    have e2 := Int.ediv_le_self b (show (0 : Int) ≤ 1000000000000000 by omega)
    omega
  omega

set_option maxRecDepth 100000 in
set_option maxHeartbeats 3200000 in
theorem value_compare (a b c d : Int) (w : World) (ha : -1000000000000000 ≤ a) (ha' : a ≤ 1000000000000000) (hb : 1 ≤ b) (hb' : b ≤ 100000000) (hc : -1000000000000000 ≤ c) (hc' : c ≤ 1000000000000000) (hd : 1 ≤ d) (hd' : d ≤ 100000000) :
    Calls Try.prog 92 #[.agg #[.int .i64 a, .int .i64 b], .agg #[.int .i64 c, .int .i64 d]] w (AllBelow (.int .i64 (cmpV a b c d)) w) := by
  have HO := Lib.hid (cmpV_or a b c d)
  obtain ⟨p1, p2, p3, p4⟩ := floor_facts a b ha ha' hb
  obtain ⟨q1, q2, q3, q4⟩ := floor_facts c d hc hc' hd
  have m1 := mul_bound (a := a - a / b * b) (b := d) (A := 100000000) (B := 100000000) (by omega) (by omega) (by omega) hd'
  have m2 := mul_bound (a := c - c / d * d) (b := b) (A := 100000000) (B := 100000000) (by omega) (by omega) (by omega) hb'
  obtain ⟨m11, m12⟩ := m1; obtain ⟨m21, m22⟩ := m2
  have B2 := ((Below.refl w.heap.size w).alloc (Nat.le_refl _) (.cells #[.int .i64 a, .int .i64 b] 102)).alloc (by simp) (.cells #[.int .i64 c, .int .i64 d] 102)
  go_enter Try.func92, Try.ntmps92
  go_wp2
  refine rg_all (by kernel_rfl) (by kernel_rfl) ?_
  repeat (go_big_quiet_step ((first
    | (go_at_call_of 58 (Value.int .i64 a); exact Calls.rg_same (spans_floor _ _ _ (by omega) (by omega) (by omega) (by omega)))
    | (go_at_call_of 58 (Value.int .i64 c); exact Calls.rg_same (spans_floor _ _ _ (by omega) (by omega) (by omega) (by omega))))))
  refine wpQuiet_nil ?_
  intro w1 hw1
  have F1 := rg_below hw1
  have E1 := B2.trans (F1.mono (by simp; omega))
  clear hw1
  obtain ⟨hc1, hf1, hs1⟩ := bcell F1
  go_wp2_with fail
  refine (cmp_Or _ [a / b - c / d, (a - a / b * b) * d - (c - c / d * d) * b] _ (by exact RI.lit2 _ _ _ _) (by simp)).mono ?_
  rintro e w2 ⟨rfl, rfl⟩
  go_wp2
  go_ret
  exact ⟨ret_int HO.out, E1.alloc E1.size _⟩

/-- A fraction rounded up. -/
def upV (a b : Int) : Int := -((-a) / b)

theorem value_up (a b : Int) (w : World) (ha : -1000000000000000000 ≤ a) (ha' : a ≤ 1000000000000000000) (hb : 0 < b) (hb' : b ≤ 1000000000000000000) :
    Calls Try.prog 65 #[.agg #[.int .i64 a, .int .i64 b]] w (AllBelow (.int .i64 (upV a b)) w) := by
  go_enter Try.func65, Try.ntmps65
  go_wp2_with (go_at_call 59; refine (spans_ceil _ _ _ ha ha' hb hb').mono ?_; rintro e w' ⟨rfl, rfl⟩)
  go_ret
  exact ⟨rfl, (Below.refl _ _).alloc (Nat.le_refl _) _⟩

/-- The stops of a span on an axis. -/
def inB (lo hi x : Int) : Bool := decide (lo < x) && decide (x < hi)
def stopsL (zs : List Int) (lo hi : Int) : List Int := lo :: zs.filter (inB lo hi) ++ if lo < hi then [hi] else []

theorem info3 : (Try.prog.info? 3).map (fun i => (i.zero, i.size, i.bytes)) = some (some (.int .i64 0), 1, 8) := by kernel_rfl

theorem filter_snoc {zs : List Int} {k : Nat} {x : Int} (p : Int → Bool) (hx : zs[k]? = some x) : (zs.take (k + 1)).filter p = (zs.take k).filter p ++ if p x then [x] else [] := by
  rw [List.take_add_one, hx]
  simp only [Option.toList_some, List.filter_append, List.filter_cons, List.filter_nil]

def ints (zs : List Int) : List Value := zs.map (Value.int .i64)

def StopsPost (zs : List Int) (w : World) (e : Ending) (w' : World) : Prop := ∃ v, e = .returned v ∧ RI w' v zs ∧ Below w.heap.size w w' ∧ w'.ownsRow (w.heap.size + 1) 3 1 v zs.length (ints zs)

theorem ints_snoc (zs : List Int) (x : Int) : ints (zs ++ [x]) = ints zs ++ [.int .i64 x] := by simp [ints]

theorem cell_one (w : World) (u0 : Value) (T : TypeId) : ∀ (j : Nat) (u : Value), [u0][j]? = some u → (w.alloc (.cells #[u0] T)).cell? (Addr.add ⟨w.heap.size, 0, none⟩ j) = some u := by
  intro j u hu
  match j with
  | 0 => simp at hu; subst hu; simp [Addr.add, World.cell?_alloc_new]
  | j + 1 => simp at hu

/-- Where stops stands: what it has collected. -/
structure StAt (lo hi : Int) (W : World) (acc : List Int) (v : Value) (w : World) : Prop where
  below : Below W.heap.size W w
  lt : W.heap.size < w.heap.size
  blk : w.heap[W.heap.size]? = some (.cells #[.int .i64 lo, .int .i64 hi] 27 (0, 0))
  own : w.ownsRow (W.heap.size + 1) 3 1 v acc.length (ints acc)
  len : acc.length ≤ 2000000

theorem StAt.next {lo hi : Int} {W : World} {acc : List Int} {v v' : Value} {w w' : World} (h : StAt lo hi W acc v w) (x : Int) (o : Obj) (hg : (w.alloc o).grownBy w' v.ownBlock)
    (ho : w'.ownsRow (W.heap.size + 1) 3 1 v' (acc.length + 1) (ints acc ++ [.int .i64 x])) (hn : acc.length + 1 ≤ 2000000) : StAt lo hi W (acc ++ [x]) v' w' := by
  have hlt := h.lt
  have hown := h.own.lt
  refine ⟨(h.below.alloc (by omega) o).grown hg (by simp; omega) (fun j hj => by have := hown j hj; omega), by have := hg.size; simp at this; omega, ?_, by rw [ints_snoc]; simpa using ho, by simp; omega⟩
  rw [hg.block _ (by simp; omega) (fun e => by have := hown _ e.symm; omega), Below.heap_alloc _ _ _ hlt]
  exact h.blk

theorem StAt.done {lo hi : Int} {W : World} {acc : List Int} {v : Value} {w : World} (h : StAt lo hi W acc v w) : StopsPost acc W (.returned v) w := ⟨v, rfl, RS.of_own h.own, h.below, h.own⟩

set_option maxRecDepth 100000 in
set_option maxHeartbeats 3200000 in
theorem spans_stops (v : Value) (zs : List Int) (lo hi : Int) (w : World) (hR : RI w v zs) (hl : zs.length ≤ 1000000) :
    Calls Try.prog 105 #[v, .agg #[.int .i64 lo, .int .i64 hi]] w (StopsPost (stopsL zs lo hi) w) := by
  obtain ⟨A, c, rfl, hc⟩ := hR.form
  obtain ⟨i0, hi0, hz0, hz1, hz2⟩ := info_parts info3
  have B1 := (Below.refl w.heap.size w).alloc (Nat.le_refl _) (.cells #[.int .i64 lo, .int .i64 hi] 27)
  go_enter Try.func105, Try.ntmps105
  go_wp2
  have hini : StAt lo hi w [lo] (.slice (some ⟨w.heap.size + 1, 0, none⟩) 1 1) ((w.alloc (.cells #[.int .i64 lo, .int .i64 hi] 27)).alloc (.cells #[.int .i64 lo] 3)) :=
    ⟨B1.alloc B1.size _, by simp; omega, by rw [Below.heap_alloc _ _ _ (by simp), heap_alloc_new], by
      have := World.ownsRow_lit (base := w.heap.size + 1) (e := 3) (size := 1) (w.alloc (.cells #[.int .i64 lo, .int .i64 hi] 27)) #[.int .i64 lo] 1 (by simp) (by decide) rfl
      simpa [ints] using this, by simp⟩
  go_loopw [5, 13] (fun s5 s13 wr => ∃ k : Nat, s13 = .int .i64 k ∧ k ≤ zs.length ∧ StAt lo hi w (lo :: (zs.take k).filter (inB lo hi)) s5 wr) (fun _ s13 _ => zs.length - (intOf s13).toNat)
  case atStart => exact ⟨0, rfl, by omega, hini⟩
  case round =>
    obtain ⟨k, rfl, hk, hst⟩ := hrel
    have Hst := Lib.hid hst
    clear hst
    have hsp0 := (blk_cells Hst.out.blk 0).1
    have hsp1 := (blk_cells Hst.out.blk 1).1
    simp at hsp0 hsp1
    have hwz := Hst.out.lt
    have hn : (lo :: (zs.take k).filter (inB lo hi)).length + 1 ≤ 2000000 := by
      have := List.length_filter_le (inB lo hi) (zs.take k); simp at this ⊢; omega
    by_cases hlt : k < zs.length
    · obtain ⟨b, o, c', x, e, hbx, hx, hcell⟩ := (hR.below Hst.out.below).at hlt
      cases e
      have Hf := Lib.hid (filter_snoc (inB lo hi) hx)
      clear hx
      cases hp : inB lo hi x
      · have hq := Lib.hid hp
        simp only [inB, Bool.and_eq_false_iff, decide_eq_false_iff_not] at hp
        by_cases h1 : lo < x
        · have h2 : ¬ x < hi := by omega
          clear hp
          go_wp2
          go_roundw
          case rel => exact ⟨k + 1, by go_num, by omega, by rw [Hf.out, hq.out]; simpa using Hst.out⟩
          case measure => simp [intOf]; omega
        · clear hp
          go_wp2
          go_roundw
          case rel => exact ⟨k + 1, by go_num, by omega, by rw [Hf.out, hq.out]; simpa using Hst.out⟩
          case measure => simp [intOf]; omega
      · have hq := Lib.hid hp
        simp only [inB, Bool.and_eq_true, decide_eq_true_eq] at hp
        obtain ⟨h1, h2⟩ := hp
        obtain ⟨acc, hacc⟩ : ∃ acc, acc = lo :: (zs.take k).filter (inB lo hi) := ⟨_, rfl⟩
        rw [← hacc] at Hst hn
        have Hacc := Lib.hid hacc
        clear hacc
        go_wp2_with (at_builtin; refine wpList_append_own _ rfl _ _ 25 rfl (w.heap.size + 1) 3 i0 (.int .i64 0) 1 8 Try.underlying25 hi0 hz0 hz1 hz2 rfl (by decide) _ acc.length _ rfl (Hst.out.own.alloc _) ⟨wr.heap.size, 0, none⟩ 1 1 [.int .i64 x] rfl rfl ?c1 ?c2 ?c3 ?c4 ?c5 ?_)
        case c1 => exact cell_one wr _ 3
        case c2 => intro u hu; simp at hu; subst hu; rfl
        case c3 => unfold maxLen; omega
        case c4 => omega
        case c5 => simp; omega
        intro v6 w6 ho6 hg6 _
        have hn6 := Lib.hid (Hst.out.next x _ hg6 ho6 hn)
        clear ho6 hg6
        go_wp2
        go_roundw
        case rel => exact ⟨k + 1, by go_num, by omega, by rw [Hf.out, hq.out]; have := hn6.out; rw [Hacc.out] at this; simpa using this⟩
        case measure => simp [intOf]; omega
    · obtain rfl : k = zs.length := by omega
      obtain ⟨acc, hacc⟩ : ∃ acc, acc = lo :: (zs.take zs.length).filter (inB lo hi) := ⟨_, rfl⟩
      rw [← hacc] at Hst hn
      have Hacc := Lib.hid (show acc = lo :: zs.filter (inB lo hi) by rw [hacc, List.take_length])
      clear hacc
      by_cases h1 : lo < hi
      · go_wp2_with (at_builtin; refine wpList_append_own _ rfl _ _ 25 rfl (w.heap.size + 1) 3 i0 (.int .i64 0) 1 8 Try.underlying25 hi0 hz0 hz1 hz2 rfl (by decide) _ acc.length _ rfl (Hst.out.own.alloc _) ⟨wr.heap.size, 0, none⟩ 1 1 [.int .i64 hi] rfl rfl ?c1 ?c2 ?c3 ?c4 ?c5 ?_)
        case c1 => exact cell_one wr _ 3
        case c2 => intro u hu; simp at hu; subst hu; rfl
        case c3 => unfold maxLen; omega
        case c4 => omega
        case c5 => simp; omega
        intro v6 w6 ho6 hg6 _
        have hn6 := Lib.hid (Hst.out.next hi _ hg6 ho6 hn)
        clear ho6 hg6
        go_wp2
        go_ret
        have := hn6.out.done
        rw [Hacc.out] at this
        rw [stopsL, if_pos h1]
        exact this
      · go_wp2
        go_ret
        have := Hst.out.done
        rw [Hacc.out] at this
        rw [stopsL, if_neg (by omega), List.append_nil]
        exact this

end Go.Proofs.Ytliddinpfgpnfaa
