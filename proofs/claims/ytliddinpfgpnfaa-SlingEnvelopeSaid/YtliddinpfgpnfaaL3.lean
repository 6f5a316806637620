/- Words for the law SlingLinear: two structs that each hold a slice that grows. -/
import Derived.Test.YtliddinpfgpnfaaA20
import Derived.Deep.AppendLies
namespace Go.Proofs.Ytliddinpfgpnfaa
open Go Go.RowKit Go.Sort
set_option linter.unusedSimpArgs false
set_option linter.unusedVariables false

theorem own_heap {w w' : World} {Z e s n : Nat} {v : Value} {xs : List Value} (h : w.ownsRow Z e s v n xs) (hh : ∀ g, v.ownBlock = some g → w'.heap[g]? = w.heap[g]?) : w'.ownsRow Z e s v n xs := by
  refine ⟨h.1, ?_⟩
  rcases h.2 with h2 | ⟨g, cap, cur, hv, hb, hg, hr⟩
  · exact Or.inl h2
  · exact Or.inr ⟨g, cap, cur, hv, hb, by rw [hh g (by rw [hv]; rfl)]; exact hg, hr⟩

theorem own_lt {w : World} {Z e s n : Nat} {v : Value} {xs : List Value} (h : w.ownsRow Z e s v n xs) {g : Nat} (hg : v.ownBlock = some g) : Z ≤ g ∧ g < w.heap.size := by
  rcases h.2 with ⟨rfl, _⟩ | ⟨g', cap, cur, rfl, hb, hk, hr⟩
  · cases hg
  · obtain rfl : g' = g := by simpa [Value.ownBlock] using hg
    refine ⟨hb, ?_⟩
    rcases Nat.lt_or_ge g' w.heap.size with q | q
    · exact q
    · rw [Array.getElem?_eq_none q] at hk; cases hk

/-- A struct of a start and gusts. -/
abbrev swC (x0 x1 : Int) (v : Value) : Obj := .cells #[.int .i64 x0, .int .i64 x1, v, .int .i64 0, .int .i64 0, .int .i64 0] 29 (0, 0)

structure LinS (B M Z : Nat) (b0 b1 m0 m1 : Int) (zb zm : List Int) (W : World) (kb km : Nat) (vb vm : Value) (w : World) : Prop where
  below : Below W.heap.size W w
  zlt : Z ≤ w.heap.size
  bB : w.heap[B]? = some (swC b0 b1 vb)
  bM : w.heap[M]? = some (swC m0 m1 vm)
  oB : w.ownsRow Z 3 1 vb kb (ints (zb.take kb))
  oM : w.ownsRow Z 3 1 vm km (ints (zm.take km))
  ap : ∀ g, vb.ownBlock = some g → vm.ownBlock ≠ some g

/-- What stands where: the blocks of the two structs lie behind those of W and before Z. -/
structure LinB (B M Z : Nat) (W : World) : Prop where
  B0 : W.heap.size ≤ B
  M0 : W.heap.size ≤ M
  BZ : B < Z
  MZ : M < Z
  ne : B ≠ M

section
variable {B M Z : Nat} {b0 b1 m0 m1 : Int} {zb zm : List Int} {W : World} {kb km : Nat} {vb vm : Value} {w : World}

theorem grow_heap {o : Obj} {w1 : World} {row : Option Nat} (hg : (w.alloc o).drew.grownBy w1 row) {k : Nat} (hk : k < w.heap.size) (hr : some k ≠ row) : w1.heap[k]? = w.heap[k]? := by
  rw [hg.block k (by rw [show (w.alloc o).drew.heap.size = w.heap.size + 1 by simp]; omega) hr]
  rw [drew_heap, Below.heap_alloc _ _ _ hk]

theorem grow_size {o : Obj} {w1 : World} {row : Option Nat} (hg : (w.alloc o).drew.grownBy w1 row) : w.heap.size + 1 ≤ w1.heap.size := by
  have := hg.size
  rw [show (w.alloc o).drew.heap.size = w.heap.size + 1 by simp] at this
  exact this

theorem grow_below {o : Obj} {w1 : World} {row : Option Nat} {n : Nat} (hg : (w.alloc o).drew.grownBy w1 row) (hn : n ≤ w.heap.size) (hr : ∀ g, row = some g → n ≤ g) : Below n w w1 := by
  have h0 : Below n w (w.alloc o).drew := ((Below.refl n w).alloc hn o).drew
  exact h0.trans ⟨hg.os, hg.tape, hg.output, hg.size, fun k hk => hg.block k (by rw [show (w.alloc o).drew.heap.size = w.heap.size + 1 by simp]; omega) (fun e => by have := hr k e.symm; omega)⟩

theorem LinS.stepB (hb : LinB B M Z W) (h : LinS B M Z b0 b1 m0 m1 zb zm W kb km vb vm w) {o : Obj} {w1 : World} {g cap : Nat} {x : Int} (hg : (w.alloc o).drew.grownBy w1 vb.ownBlock) (hx : zb[kb]? = some x)
    (ho : w1.ownsRow Z 3 1 (.slice (some ⟨g, 0, none⟩) (kb + 1) cap) (kb + 1) (ints (zb.take kb) ++ [.int .i64 x])) (hat : vb.ownBlock = some g ∨ g = w.heap.size + 1) :
    LinS B M Z b0 b1 m0 m1 zb zm W (kb + 1) km (.slice (some ⟨g, 0, none⟩) (kb + 1) cap) vm (w1.setCell ⟨B, 2, none⟩ (.slice (some ⟨g, 0, none⟩) (kb + 1) cap)) := by
  have hB0 := hb.B0; have hM0 := hb.M0; have hBZ := hb.BZ; have hMZ := hb.MZ; have hz := h.zlt
  have hown : ∀ r, vb.ownBlock = some r → Z ≤ r ∧ r < w.heap.size := fun r hr => own_lt h.oB hr
  have hgZ : Z ≤ g := (own_lt ho (g := g) rfl).1
  have nB : some B ≠ vb.ownBlock := fun e => by have := (hown B e.symm).1; omega
  have nM : some M ≠ vb.ownBlock := fun e => by have := (hown M e.symm).1; omega
  have eB : w1.heap[B]? = some (swC b0 b1 vb) := by rw [grow_heap hg (by omega) nB]; exact h.bB
  have eM : w1.heap[M]? = some (swC m0 m1 vm) := by rw [grow_heap hg (by omega) nM]; exact h.bM
  refine ⟨?_, ?_, ?_, ?_, ?_, ?_, ?_⟩
  · exact (h.below.trans (grow_below hg (by have := h.below.size; omega) (fun r hr => by have := (hown r hr).1; omega))).setCell (by show W.heap.size ≤ B; omega) _
  · have := grow_size hg; show Z ≤ (w1.setCell _ _).heap.size; simp [World.setCell]; omega
  · rw [heap_setCell_at eB]; rfl
  · rw [heap_setCell_ne (fun e => hb.ne e.symm)]; exact eM
  · rw [List.take_add_one, hx]
    refine own_heap (w := w1) ?_ (fun r hr => ?_)
    · simpa [ints] using ho
    · obtain rfl : g = r := by simpa [Value.ownBlock] using hr
      exact heap_setCell_ne (show g ≠ B by omega) _
  · refine own_heap h.oM (fun r hr => ?_)
    obtain ⟨r1, r2⟩ := own_lt h.oM hr
    rw [heap_setCell_ne (by omega), grow_heap hg r2 (fun e => h.ap r e.symm hr)]
  · intro r hr e
    obtain rfl : g = r := by simpa [Value.ownBlock] using hr
    obtain ⟨r1, r2⟩ := own_lt h.oM e
    rcases hat with h1 | h1
    · exact h.ap g h1 e
    · omega

theorem LinS.stepM (hb : LinB B M Z W) (h : LinS B M Z b0 b1 m0 m1 zb zm W kb km vb vm w) {o : Obj} {w1 : World} {g cap : Nat} {x : Int} (hg : (w.alloc o).drew.grownBy w1 vm.ownBlock) (hx : zm[km]? = some x)
    (ho : w1.ownsRow Z 3 1 (.slice (some ⟨g, 0, none⟩) (km + 1) cap) (km + 1) (ints (zm.take km) ++ [.int .i64 x])) (hat : vm.ownBlock = some g ∨ g = w.heap.size + 1) :
    LinS B M Z b0 b1 m0 m1 zb zm W kb (km + 1) vb (.slice (some ⟨g, 0, none⟩) (km + 1) cap) (w1.setCell ⟨M, 2, none⟩ (.slice (some ⟨g, 0, none⟩) (km + 1) cap)) := by
  have h' : LinS M B Z m0 m1 b0 b1 zm zb W km kb vm vb w := ⟨h.below, h.zlt, h.bM, h.bB, h.oM, h.oB, fun g h1 h2 => h.ap g h2 h1⟩
  have hb' : LinB M B Z W := ⟨hb.M0, hb.B0, hb.MZ, hb.BZ, fun e => hb.ne e.symm⟩
  have k := LinS.stepB hb' h' hg hx ho hat
  exact ⟨k.below, k.zlt, k.bM, k.bB, k.oM, k.oB, fun g h1 h2 => k.ap g h2 h1⟩
end
end Go.Proofs.Ytliddinpfgpnfaa
