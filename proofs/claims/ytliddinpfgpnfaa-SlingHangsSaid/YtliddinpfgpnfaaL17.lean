/- The plain law of SlingHangs: behind each beginning of right steps the hoist carries what hangs on it, and counts its cycles. -/
import Derived.Test.YtliddinpfgpnfaaL10
namespace Go.Proofs.Ytliddinpfgpnfaa
open Go.RowKit

/-- How many steps unhook. -/
def cnt5 (l : List (Int × Int)) : Int := (l.filter fun x => decide (x.1 = 5)).length

theorem cnt5_snoc (l : List (Int × Int)) (x : Int × Int) : cnt5 (l ++ [x]) = if x.1 = 5 then cnt5 l + 1 else cnt5 l := by
  unfold cnt5
  rw [List.filter_append]
  by_cases h : x.1 = 5 <;> simp [h]

structure Hng (cable : Int) (X Y : List Int) (V : List (List Int)) (lo hi : Int) (i : Nat) (c : Int) (s : Hg) : Prop where
  vd : Vd cable i s
  wm : s.W ≤ 100000
  cyc : s.C = c
  bear : 0 < s.W → bearB X Y V lo hi s.L s.W = true

theorem hang_step {cable : Int} {X Y : List Int} {V : List (List Int)} {charge lo hi : Int} (h : OnH cable X Y V lo hi) {s s' : Hg} {i : Nat} {c kd n : Int} (hs : Hng cable X Y V lo hi i c s) (hd : refO cable X Y V charge lo hi s kd n = some s') :
    Hng cable X Y V lo hi (i + 1) (if kd = 5 then c + 1 else c) s' := by
  have hv := doO_valid (charge := charge) (by have := h.cab; omega) hs.vd (by rw [do_ref h hs.vd]; exact hd)
  obtain ⟨vd, wm, cyc, bear⟩ := hs
  unfold refO at hd
  by_cases hc : s.cut = true
  · rw [if_pos hc] at hd; cases hd
  rw [if_neg hc] at hd
  by_cases k1 : kd = 1
  · rw [if_pos k1] at hd
    split at hd
    · rename_i q
      cases hd
      exact ⟨hv, wm, by rw [if_neg (by omega)]; exact cyc, q.2.2.2.2⟩
    · cases hd
  rw [if_neg k1] at hd
  by_cases k2 : kd = 2
  · rw [if_pos k2] at hd
    split at hd
    · rename_i q
      cases hd
      exact ⟨hv, wm, by rw [if_neg (by omega)]; exact cyc, q.2.2.2.2⟩
    · cases hd
  rw [if_neg k2] at hd
  by_cases k3 : kd = 3
  · rw [if_pos k3] at hd
    split at hd
    · cases hd
      exact ⟨hv, wm, by rw [if_neg (by omega)]; exact cyc, bear⟩
    · cases hd
  rw [if_neg k3] at hd
  by_cases k4 : kd = 4
  · rw [if_pos k4] at hd
    split at hd
    · rename_i q
      cases hd
      obtain ⟨q1, _, _, _, _, q6⟩ := q
      simp only [wi, Bool.and_eq_true, decide_eq_true_eq] at q1
      exact ⟨hv, q1.2, by rw [if_neg (by omega)]; exact cyc, fun _ => q6⟩
    · cases hd
  rw [if_neg k4] at hd
  by_cases k5 : kd = 5
  · rw [if_pos k5] at hd
    split at hd
    · cases hd
      exact ⟨hv, by show (0 : Int) ≤ 100000; decide, by rw [if_pos k5]; show s.C + 1 = c + 1; omega, fun h => absurd h (by show ¬ (0 : Int) < 0; omega)⟩
    · cases hd
  rw [if_neg k5] at hd
  by_cases k6 : kd = 6
  · rw [if_pos k6] at hd
    split at hd
    · cases hd
      exact ⟨hv, by show (0 : Int) ≤ 100000; decide, by rw [if_neg k5]; exact cyc, fun h => absurd h (by show ¬ (0 : Int) < 0; omega)⟩
    · cases hd
  rw [if_neg k6] at hd
  cases hd

theorem run_prefix {f : Hg → Int → Int → Option Hg} (l m : List (Int × Int)) : ∀ (s e : Hg) (k : Nat), runO f s k (l ++ m) = .inl e → ∃ s', runO f s k l = .inl s' ∧ runO f s' (k + l.length) m = .inl e := by
  induction l with
  | nil => intro s e k h; exact ⟨s, rfl, h⟩
  | cons x l ih =>
    intro s e k h
    simp only [List.cons_append, runO] at h ⊢
    cases hd : f s x.1 x.2 with
    | none => rw [hd] at h; cases h
    | some s1 =>
      rw [hd] at h
      obtain ⟨s', h1, h2⟩ := ih s1 e (k + 1) h
      exact ⟨s', h1, by rw [List.length_cons, show k + (l.length + 1) = k + 1 + l.length by omega]; exact h2⟩

theorem hang_all {cable : Int} {X Y : List Int} {V : List (List Int)} {charge lo hi : Int} {l : List (Int × Int)} (h : (haulR cable X Y V charge lo hi l).2.2 = 0) :
    ∀ i, i ≤ l.length → ∃ s, runO (refO cable X Y V charge lo hi) h0 0 (l.take i) = .inl s ∧ haulR cable X Y V charge lo hi (l.take i) = (s, 0, 0) ∧ Hng cable X Y V lo hi i (cnt5 (l.take i)) s := by
  obtain ⟨hw, hn, e, _, hr⟩ := haul_zero h
  have hO := windsE_zero hw
  have key : ∀ i, i ≤ l.length → ∃ s, runO (refO cable X Y V charge lo hi) h0 0 (l.take i) = .inl s ∧ Hng cable X Y V lo hi i (cnt5 (l.take i)) s := by
    intro i
    induction i with
    | zero =>
      intro _
      exact ⟨h0, rfl, vd0 (by have := hO.cab; omega), by decide, rfl, fun h => absurd h (by decide)⟩
    | succ i ih =>
      intro hle
      obtain ⟨s, h1, h2⟩ := ih (by omega)
      have hx : l[i]? = some l[i] := List.getElem?_eq_getElem (by omega)
      have ht : l.take (i + 1) = l.take i ++ [l[i]] := by rw [List.take_add_one, hx]; rfl
      have hrt : runO (refO cable X Y V charge lo hi) h0 0 (l.take (i + 1) ++ l.drop (i + 1)) = .inl e := by rw [List.take_append_drop]; exact hr
      obtain ⟨s', h3, _⟩ := run_prefix _ _ _ _ _ hrt
      refine ⟨s', h3, ?_⟩
      rw [ht] at h3
      obtain ⟨s2, h4, h5⟩ := run_prefix _ _ _ _ _ h3
      rw [h1] at h4
      cases h4
      simp only [runO] at h5
      cases hd : refO cable X Y V charge lo hi s l[i].1 l[i].2 with
      | none => rw [hd] at h5; cases h5
      | some s3 =>
        rw [hd] at h5
        cases h5
        rw [ht, cnt5_snoc]
        exact hang_step hO h2 hd
  intro i hle
  obtain ⟨s, h1, h2⟩ := key i hle
  refine ⟨s, h1, ?_, h2⟩
  rw [haul_eq]
  unfold haulS
  rw [if_neg (by rw [hw]; simp), if_neg (by rw [List.length_take]; omega), if_neg (by rw [hw]; simp), h1]
  rfl

end Go.Proofs.Ytliddinpfgpnfaa
