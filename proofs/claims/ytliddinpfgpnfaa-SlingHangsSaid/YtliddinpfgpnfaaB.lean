/- Words for the walks: regions that draw their order at the class of worlds in which what stood before is unturned; slices that read as lists. -/
import Derived.Test.YtliddinpfgpnfaaQ
import Derived.Test.YtliddinpfgpnfaaProg
import Derived.WalkKit
import Derived.WalkSpells
import Derived.WalkLawsBesides
import Derived.Lib.QuietBelow
import Derived.StillTailTactics
import Derived.Lib.Hide
import Derived.KernelRfl
import Derived.Deep.DeepCutAuto
import Derived.Deep.LoopGhost
import Derived.Deep.DeepMust
namespace Go.Proofs.Ytliddinpfgpnfaa
open Go Go.RowKit Go.Sort
set_option linter.unusedSimpArgs false
set_option linter.unusedVariables false

theorem region_tail {P : Program} {id : Nat} {Q : Exit → Act → World → Prop} {a : Act} {w : World} {l : List Oper} (n : Nat) (hm : P.follows .mixedOrders = true) (hB : Region.lexTailB .any l.toArray n = true)
    (h : wpStill P l.toArray w.drew (fun a' => wpList P l.toArray Q (l.drop n) a' w.drew) (l.take n) a) : (Code.region id l.toArray true).wp P Q a w :=
  wp_region_still_tail n hm hB h

/-- The worlds in which all that lies in w is as it was. -/
abbrev RG (w : World) : World → Prop := fun w' => ∃ p : Regrown, w' = grow (redrawn w p.d) p.os

theorem rg_below {w w' : World} (h : RG w w') : Below w.heap.size w w' := by obtain ⟨p, rfl⟩ := h; exact below_regrown w p.d p.os

theorem rg_drew (w : World) : RG w w.drew := ⟨⟨w.drawn + 1, #[]⟩, by rw [grow_empty]; rfl⟩

/-- A region whose first n operations are quiet, then the others. -/
theorem rg_tail {P : Program} {id : Nat} {Q : Exit → Act → World → Prop} {a : Act} {w : World} {l : List Oper} (n : Nat) (hm : P.follows .mixedOrders = true) (hB : Region.lexTailB .any l.toArray n = true)
    (h : wpQuiet P l.toArray (RG w) (fun a' => ∀ w1, RG w w1 → wpList P l.toArray Q (l.drop n) a' w1) (l.take n) a) : (Code.region id l.toArray true).wp P Q a w :=
  wp_quiet_tail (RG w) n hm hB (rg_drew w) h

/-- A region all of whose operations are quiet. -/
theorem rg_all {P : Program} {id : Nat} {Q : Exit → Act → World → Prop} {a : Act} {w : World} {l : List Oper} (hm : P.follows .mixedOrders = true) (hB : Region.lexB .any l.toArray = true)
    (h : wpQuiet P l.toArray (RG w) (fun a' => ∀ w1, RG w w1 → Q .normal a' w1) l a) : (Code.region id l.toArray true).wp P Q a w :=
  wp_quiet_all (RG w) hm hB (rg_drew w) h

theorem rg_cell {w : World} {a : Addr} {d : Nat} {os : Array Obj} (h : a.block < w.heap.size) : (grow (redrawn w d) os).cell? a = w.cell? a := (below_regrown w d os).cell h
theorem rg_frozen {w : World} {a : Addr} {d : Nat} {os : Array Obj} (h : a.block < w.heap.size) : (grow (redrawn w d) os).frozen? a = w.frozen? a := (below_regrown w d os).frozen h
attribute [go_sem] rg_cell rg_frozen

/-- Old cells read as before, as rules for the walk. -/
theorem bcell {W w1 : World} (hb : Below W.heap.size W w1) : (∀ b o, b < W.heap.size → w1.cell? ⟨b, o, none⟩ = W.cell? ⟨b, o, none⟩) ∧ (∀ b o, b < W.heap.size → w1.frozen? ⟨b, o, none⟩ = W.frozen? ⟨b, o, none⟩) ∧ W.heap.size ≤ w1.heap.size :=
  ⟨fun b o h => hb.cell (p := ⟨b, o, none⟩) h, fun b o h => hb.frozen (p := ⟨b, o, none⟩) h, hb.size⟩

theorem lt_of_cell {w : World} {b o : Nat} {v : Value} (h : w.cell? ⟨b, o, none⟩ = some v) : b < w.heap.size := block_lt_of_cell h

theorem ret_int {k : IntKind} {a b : Int} (h : a = b) : Ending.returned (.int k a) = .returned (.int k b) := by rw [h]
theorem ret_bool {a b : Bool} (h : a = b) : Ending.returned (.bool a) = .returned (.bool b) := by rw [h]

/-- What a call hands back, and that what stood before is unturned. -/
def AllBelow (v : Value) (w : World) (e : Ending) (w' : World) : Prop := e = .returned v ∧ Below w.heap.size w w'

/-- A slice of n elements of sz cells each reads as the cells cs. -/
def RS (w : World) (v : Value) (sz n : Nat) (cs : List Value) : Prop :=
  ∃ A c, v = .slice A n c ∧ n ≤ c ∧ cs.length = n * sz ∧ ∀ j u, cs[j]? = some u → ∃ b o, A = some ⟨b, o, none⟩ ∧ w.cell? ⟨b, o + j, none⟩ = some u

theorem RS.below {w w' : World} {v : Value} {sz n : Nat} {cs : List Value} (h : RS w v sz n cs) (hb : Below w.heap.size w w') : RS w' v sz n cs := by
  obtain ⟨A, c, e, h1, h2, h3⟩ := h
  refine ⟨A, c, e, h1, h2, fun j u hu => ?_⟩
  obtain ⟨b, o, e1, hc⟩ := h3 j u hu
  exact ⟨b, o, e1, by rw [hb.cell (p := ⟨b, o + j, none⟩) (lt_of_cell hc)]; exact hc⟩

/-- The same with its address, where it has an element. -/
theorem RS.open {w : World} {v : Value} {sz n : Nat} {cs : List Value} (h : RS w v sz n cs) (hn : 0 < n * sz) :
    ∃ b o c, v = .slice (some ⟨b, o, none⟩) n c ∧ n ≤ c ∧ b < w.heap.size ∧ ∀ j u, cs[j]? = some u → w.cell? ⟨b, o + j, none⟩ = some u := by
  obtain ⟨A, c, e, h1, h2, h3⟩ := h
  obtain ⟨b, o, e1, hc⟩ := h3 0 _ (List.getElem?_eq_getElem (by omega))
  refine ⟨b, o, c, by rw [e, e1], h1, lt_of_cell hc, fun j u hu => ?_⟩
  obtain ⟨b', o', e2, hc'⟩ := h3 j u hu
  rw [e1] at e2
  cases e2
  exact hc'

/-- A slice of whole numbers. -/
def RI (w : World) (v : Value) (zs : List Int) : Prop := RS w v 1 zs.length (zs.map (Value.int .i64))

theorem RI.below {w w' : World} {v : Value} {zs : List Int} (h : RI w v zs) (hb : Below w.heap.size w w') : RI w' v zs := RS.below h hb

theorem RI.form {w : World} {v : Value} {zs : List Int} (h : RI w v zs) : ∃ A c, v = .slice A zs.length c ∧ zs.length ≤ c := by
  obtain ⟨A, c, e, h1, _⟩ := h; exact ⟨A, c, e, h1⟩

theorem RI.open {w : World} {v : Value} {zs : List Int} (h : RI w v zs) (hn : 0 < zs.length) :
    ∃ b o c, v = .slice (some ⟨b, o, none⟩) zs.length c ∧ zs.length ≤ c ∧ b < w.heap.size ∧ ∀ i : Nat, i < zs.length → w.cell? ⟨b, o + i, none⟩ = some (.int .i64 (zs.getD i 0)) := by
  obtain ⟨b, o, c, e, h1, h2, h3⟩ := RS.open h (by omega)
  exact ⟨b, o, c, e, h1, h2, fun i hi => h3 i _ (by simp [hi])⟩

/-- What the call owns it owns still where what stood before is unturned. -/
theorem own_below {w w' : World} {base : Nat} {e : TypeId} {sz : Nat} {v : Value} {n : Nat} {xs : List Value} (h : w.ownsRow base e sz v n xs) (hb : Below w.heap.size w w') : w'.ownsRow base e sz v n xs := by
  obtain ⟨h1, h2⟩ := h
  refine ⟨h1, h2.imp id ?_⟩
  rintro ⟨g, cap, cur, hv, hg, hh, r⟩
  have hlt : g < w.heap.size := by
    rcases Nat.lt_or_ge g w.heap.size with h | h
    · exact h
    · rw [Array.getElem?_eq_none h] at hh; cases hh
  exact ⟨g, cap, cur, hv, hg, by rw [hb.block g hlt]; exact hh, r⟩

theorem RS.of_own {w : World} {base : Nat} {e : TypeId} {sz : Nat} {v : Value} {n : Nat} {xs : List Value} (h : w.ownsRow base e sz v n xs) : RS w v sz n xs := by
  obtain ⟨h1, h2⟩ := h
  rcases h2 with ⟨rfl, rfl⟩ | ⟨g, cap, cur, rfl, hg, hh, hn, hm, hs, ht⟩
  · exact ⟨none, 0, rfl, Nat.le_refl _, h1, fun j u hu => by simp at h1; subst h1; simp at hu⟩
  · refine ⟨_, cap, rfl, hn, h1, fun j u hu => ⟨g, 0, rfl, ?_⟩⟩
    have : cur.toList[j]? = some u := by
      rw [← ht, List.getElem?_take] at hu
      split at hu
      · exact hu
      · cases hu
    simpa [World.cell?, hh] using this

theorem RS.nil (w : World) (sz : Nat) : RS w (.slice none 0 0) sz 0 [] := ⟨none, 0, rfl, Nat.le_refl _, by simp, fun j u hu => by simp at hu⟩

/-- Fractions as cells. -/
def prs (l : List (Int × Int)) : List Value := l.flatMap fun p => [.int .i64 p.1, .int .i64 p.2]
theorem prs_len (l : List (Int × Int)) : (prs l).length = l.length * 2 := by
  induction l with
  | nil => rfl
  | cons a l ih => simp only [prs, List.flatMap_cons, List.length_append, List.length_cons, List.length_nil] at *; omega
theorem prs_snoc (l : List (Int × Int)) (p : Int × Int) : prs (l ++ [p]) = prs l ++ [.int .i64 p.1, .int .i64 p.2] := by simp [prs]
theorem prs_at (l : List (Int × Int)) (k : Nat) (p : Int × Int) (h : l[k]? = some p) : (prs l)[k * 2]? = some (.int .i64 p.1) ∧ (prs l)[k * 2 + 1]? = some (.int .i64 p.2) := by
  induction l generalizing k with
  | nil => simp at h
  | cons a l ih =>
    cases k with
    | zero => simp at h; subst h; exact ⟨rfl, rfl⟩
    | succ k =>
      have := ih k (by simpa using h)
      simp only [prs, List.flatMap_cons] at *
      rw [show (k + 1) * 2 = k * 2 + 1 + 1 by omega]
      exact this

end Go.Proofs.Ytliddinpfgpnfaa
