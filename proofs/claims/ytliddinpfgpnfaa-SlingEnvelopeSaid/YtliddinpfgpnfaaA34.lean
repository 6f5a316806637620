/- Words for newSet: an append of no or some boxes at a step of a region that draws its order. -/
import Derived.Test.YtliddinpfgpnfaaRC
import Derived.Deep.AppendLies
import Derived.Deep.RegionHeld
namespace Go.Proofs.Ytliddinpfgpnfaa
open Go Go.RowKit Go.Sort
set_option linter.unusedSimpArgs false
set_option linter.unusedVariables false

/-- An append of boxes, none or some. -/
theorem run_app {w : World} (ty : TypeId) {base base' k m : Nat} {v x : Value} {xs cs : List Value} (hown : w.ownsRow base 65 1 v k xs) (hx : w.ownsRow base' 65 1 x m cs) (hz : m = 0 → x = .slice none 0 0) (h1 : ∀ u ∈ cs, u.oneCell' = true)
    (hk : k + m ≤ 1000000) (hbase : base ≤ w.heap.size) :
    ∃ v' w', (Builtin.append_ #[142, 142] ty #[v, x]).run Try.prog w = .ok v' w' ∧ w'.ownsRow base 65 1 v' (k + m) (xs ++ cs) ∧ w.grownBy w' v.ownBlock := by
  obtain ⟨i0, hi, hz0, hz1, hz2⟩ := info_parts info65
  by_cases hm : m = 0
  · subst hm
    rw [hz rfl]
    have hcs : cs = [] := List.eq_nil_of_length_eq_zero (by have := hx.1; omega)
    subst hcs
    exact ⟨v, w, run_append_owned_none w base 142 ty 65 i0 1 Try.underlying142 hi _ k xs hown, by simpa using hown, World.grownBy.refl _ _⟩
  · rcases hx.2 with ⟨_, e0⟩ | ⟨g, cap, cur, rfl, hb, hh, q1, q2, q3, q4⟩
    · exact absurd e0 hm
    · obtain ⟨g', cap', w', h5, h6, h7, _, _⟩ := run_append_lies (P := Try.prog) w 142 ty base 65 i0 (.slice none 0 0) 1 24 Try.underlying142 hi hz0 hz1 hz2 rfl (by decide) v k xs hown ⟨g, 0, none⟩ m cap cs hx.1 (fun j u hu => by
        have := (blk_cells hh j).1
        rw [show (⟨g, 0, none⟩ : Addr).add j = ⟨g, j, none⟩ by unfold Addr.add; split <;> simp_all, this]
        rw [← q4, List.getElem?_take] at hu
        split at hu
        · simpa using hu
        · cases hu) h1 (by omega) (by unfold maxLen; omega) (by omega) hbase w.heap.size rfl
      exact ⟨_, w', h5, h6, h7⟩

theorem step_app {w : World} {ops : Array Oper} {o : Oper} {a : Act} {K : Act → World → Prop} {Q : Exit → Act → World → Prop} {E : Prop} (hgd : o.guard = none) (s x : Operand)
    (ho : o.op = .call { callee := .builtin .append, args := #[s, x], argTypes := #[142, 142] }) {base base' k m : Nat} {v xv : Value} {xs cs : List Value} (hs : a.eval s = v) (hxv : a.eval x = xv)
    (hown : w.ownsRow base 65 1 v k xs) (hx : w.ownsRow base' 65 1 xv m cs) (hz : m = 0 → xv = .slice none 0 0) (h1 : ∀ u ∈ cs, u.oneCell' = true) (hk : k + m ≤ 1000000) (hbase : base ≤ w.heap.size)
    (h : ∀ v' w', w'.ownsRow base 65 1 v' (k + m) (xs ++ cs) → w.grownBy w' v.ownBlock → K (a.put o.dst v') w') :
    if Region.wanted o (yielded ops a.tmps) = true then Oper.wp Try.prog o a w K Q else E := by
  have hw : Region.wanted o (yielded ops a.tmps) = true := by simp [Region.wanted, hgd]
  rw [if_pos hw]
  obtain ⟨v', w', hr, h2, h3⟩ := run_app o.type hown hx hz h1 hk hbase
  unfold Oper.wp execOp
  simp only [ho, resolve, invoke, builtin, Sem.run_bind, Sem.run_pure, Result.andThen_ok, List.map_toArray, List.map_cons, List.map_nil, hs, hxv, hr]
  exact h v' w' h2 h3

end Go.Proofs.Ytliddinpfgpnfaa
