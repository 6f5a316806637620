/- Contracts: lists of boxes, and the specification's tests of sets. -/
import Derived.Test.YtliddinpfgpnfaaA32
import Derived.Test.YtliddinpfgpnfaaA13
import Derived.Test.YtliddinpfgpnfaaL3
namespace Go.Proofs.Ytliddinpfgpnfaa
open Go Go.RowKit Go.Sort
set_option linter.unusedSimpArgs false
set_option linter.unusedVariables false

theorem info65 : (Try.prog.info? 65).map (fun i => (i.zero, i.size, i.bytes)) = some (some (.slice none 0 0), 1, 24) := by kernel_rfl

theorem RP.one {w : World} {b : Nat} {x y : Int} (h : w.heap[b]? = some (.cells #[.int .i64 x, .int .i64 y] 27 (0, 0))) : RP w (.slice (some ⟨b, 0, none⟩) 1 1) [(x, y)] :=
  ⟨_, 1, rfl, Nat.le_refl _, rfl, fun j u hu => ⟨b, 0, rfl, by
    rcases j with _ | _ | j
    · cases hu; simp [blk_cells h]
    · cases hu; simp [blk_cells h]
    · simp [prs] at hu⟩⟩

/-- A slice of boxes reads as these. -/
def BX (w : World) (v : Value) (bl : List (List (Int × Int))) : Prop := ∃ cs : List Value, RS w v 1 bl.length cs ∧ ∀ (j : Nat) (u : Value), cs[j]? = some u → ∃ b, bl[j]? = some b ∧ RP w u b

theorem BX.below {w w' : World} {v : Value} {bl : List (List (Int × Int))} (h : BX w v bl) (hb : Below w.heap.size w w') : BX w' v bl := by
  obtain ⟨cs, h1, h2⟩ := h
  exact ⟨cs, h1.below hb, fun j u hu => by obtain ⟨b, e, r⟩ := h2 j u hu; exact ⟨b, e, r.below hb⟩⟩

/-- A slice of one span in a block of its own. -/
def One (w : World) (u : Value) (p : Int × Int) : Prop := ∃ b, u = .slice (some ⟨b, 0, none⟩) 1 1 ∧ w.heap[b]? = some (.cells #[.int .i64 p.1, .int .i64 p.2] 27 (0, 0))

theorem One.below {w w' : World} {u : Value} {p : Int × Int} (h : One w u p) (hb : Below w.heap.size w w') : One w' u p := by
  obtain ⟨b, e, hh⟩ := h
  have hlt : b < w.heap.size := by
    rcases Nat.lt_or_ge b w.heap.size with q | q
    · exact q
    · rw [Array.getElem?_eq_none q] at hh; cases hh
  exact ⟨b, e, (hb.block b hlt).trans hh⟩

theorem One.grown {w w' : World} {u v : Value} {p : Int × Int} {base k : Nat} {cs : List Value} (h : One w u p) (ho : w.ownsRow base 65 1 v k cs) (hg : w.grownBy w' v.ownBlock) : One w' u p := by
  obtain ⟨b, e, hh⟩ := h
  have hlt : b < w.heap.size := by
    rcases Nat.lt_or_ge b w.heap.size with q | q
    · exact q
    · rw [Array.getElem?_eq_none q] at hh; cases hh
  refine ⟨b, e, (hg.block b hlt (fun e2 => ?_)).trans hh⟩
  rcases ho.2 with ⟨rfl, _⟩ | ⟨g, cap, cur, rfl, _, hk, _⟩
  · cases e2
  · have e3 : b = g := by simpa [Value.ownBlock] using e2
    rw [e3, hk] at hh
    cases hh

/-- Where boxes stands. -/
structure BoxAt (W : World) (l : List (Int × Int)) (k : Nat) (v : Value) (w : World) : Prop where
  below : Below W.heap.size W w
  own : ∃ cs : List Value, w.ownsRow W.heap.size 65 1 v k cs ∧ ∀ (j : Nat) (u : Value), cs[j]? = some u → ∃ p, l[j]? = some p ∧ One w u p
  nil : k = 0 → v = .slice none 0 0

theorem BoxAt.done {W : World} {l : List (Int × Int)} {v : Value} {w : World} (h : BoxAt W l l.length v w) : BX w v (l.map fun p => [p]) := by
  obtain ⟨cs, h1, h2⟩ := h.own
  refine ⟨cs, by simpa using RS.of_own h1, fun j u hu => ?_⟩
  obtain ⟨p, hp, b, rfl, hr⟩ := h2 j u hu
  exact ⟨[p], by simp [hp], RP.one hr⟩

theorem heap3 (w : World) (o1 o2 o3 : Obj) : (((w.alloc o1).alloc o2).alloc o3).heap[w.heap.size + 1]? = some o2 ∧ (((w.alloc o1).alloc o2).alloc o3).heap[w.heap.size + 1 + 1]? = some o3 := by
  have h1 := heap_alloc_new ((w.alloc o1).alloc o2) o3
  have h2 := heap_alloc_new (w.alloc o1) o2
  refine ⟨?_, by simpa using h1⟩
  rw [Below.heap_alloc _ _ _ (by simp)]
  simpa using h2

theorem BoxAt.next {W : World} {l : List (Int × Int)} {k : Nat} {v v' : Value} {w w' : World} (h : BoxAt W l k v w) {x y : Int} (hx : l[k]? = some (x, y)) {cs : List Value} {o1 o3 : Obj}
    (hown : w.ownsRow W.heap.size 65 1 v k cs) (hcs : ∀ (j : Nat) (u : Value), cs[j]? = some u → ∃ p, l[j]? = some p ∧ One w u p)
    (hg : (((w.alloc o1).alloc (.cells #[.int .i64 x, .int .i64 y] 27)).alloc o3).grownBy w' v.ownBlock) (ho : w'.ownsRow W.heap.size 65 1 v' (k + 1) (cs ++ [.slice (some ⟨w.heap.size + 1, 0, none⟩) 1 1])) : BoxAt W l (k + 1) v' w' := by
  have hz := h.below.size
  have hlt := hown.lt
  have hlen : cs.length = k := by have := hown.1; omega
  have B3 : Below w.heap.size w (((w.alloc o1).alloc (.cells #[.int .i64 x, .int .i64 y] 27)).alloc o3) := (((Below.refl _ _).alloc (Nat.le_refl _) _).alloc (by simp) _).alloc (by simp; omega) _
  have hown3 := own_below hown B3
  refine ⟨(h.below.trans (B3.mono hz)).grown hg (by have := B3.size; omega) (fun g hg => by have := hlt g hg; omega), ⟨_, ho, fun j u hu => ?_⟩, fun h => by omega⟩
  by_cases hj : j < k
  · rw [List.getElem?_append_left (by omega)] at hu
    obtain ⟨p, hp, hr⟩ := hcs j u hu
    exact ⟨p, hp, (hr.below B3).grown hown3 hg⟩
  · rw [List.getElem?_append_right (by omega), hlen] at hu
    have hjk : j = k := by
      have := (List.getElem?_eq_some_iff.1 hu).1
      simp at this; omega
    subst hjk
    rw [Nat.sub_self] at hu
    cases hu
    exact ⟨(x, y), hx, One.grown ⟨_, rfl, (heap3 w _ _ _).1⟩ hown3 hg⟩

set_option maxHeartbeats 1600000 in
set_option maxRecDepth 100000 in
theorem sling_boxes (v : Value) (l : List (Int × Int)) (w : World) (hR : RP w v l) (hl : l.length ≤ 1000) :
    Calls Try.prog 94 #[v] w fun e w' => ∃ vo, e = .returned vo ∧ BoxAt w l l.length vo w' := by
  obtain ⟨A, c, rfl, hc⟩ := hR.form
  obtain ⟨i0, hi, hz0, hz1, hz2⟩ := info_parts info65
  go_enter Try.func94, Try.ntmps94
  go_wp2
  go_loopw [2, 7] (fun s2 s7 wr => ∃ k : Nat, s7 = .int .i64 k ∧ k ≤ l.length ∧ BoxAt w l k s2 wr) (fun _ s7 _ => l.length - (intOf s7).toNat)
  case atStart => exact ⟨0, rfl, by omega, Below.refl _ _, ⟨[], World.ownsRow_nil _ _ _ _, fun j u hu => by simp at hu⟩, fun _ => rfl⟩
  case round =>
    obtain ⟨k, rfl, hk, hst⟩ := hrel
    have Hst := Lib.hid hst
    clear hst
    by_cases hlt : k < l.length
    · obtain ⟨b, o, c', x, y, e, hb, hx, q0, q1⟩ := (hR.below Hst.out.below).at hlt
      cases e
      have Hx := Lib.hid hx
      clear hx
      have i1 : (k : Int) < (l.length : Int) := by omega
      have i2 : (0 : Int) ≤ (k : Int) := by omega
      obtain ⟨cs, hown, hcs⟩ := Hst.out.own
      have Hcs := Lib.hid hcs
      clear hcs
      have hz := Hst.out.below.size
      go_wp2_with (at_builtin; refine wpList_append_own _ rfl _ _ 142 rfl w.heap.size 65 i0 (.slice none 0 0) 1 24 Try.underlying142 hi hz0 hz1 hz2 rfl (by decide) _ k _ rfl (((hown.alloc _).alloc _).alloc _) ⟨wr.heap.size + 1 + 1, 0, none⟩ 1 1 [.slice (some ⟨wr.heap.size + 1, 0, none⟩) 1 1] rfl rfl ?c1 ?c2 ?c3 ?c4 ?c5 ?_)
      case c1 => exact World.news_of_block (heap3 wr _ _ _).2
      case c2 => intro u hu; simp at hu; subst hu; rfl
      case c3 => unfold maxLen; omega
      case c4 => omega
      case c5 => simp; omega
      intro v6 w6 ho6 hg6 _
      have hn6 := Lib.hid (Hst.out.next Hx.out hown Hcs.out hg6 ho6)
      clear ho6 hg6
      go_wp2
      go_roundw
      case rel => exact ⟨k + 1, by go_num, by omega, hn6.out⟩
      case measure => simp [intOf]; omega
    · obtain rfl : k = l.length := by omega
      go_wp2
      go_ret
      exact ⟨_, rfl, Hst.out⟩

end Go.Proofs.Ytliddinpfgpnfaa
