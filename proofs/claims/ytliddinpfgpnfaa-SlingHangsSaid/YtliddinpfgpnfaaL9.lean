/- The plain law of SlingTouched: a hoist that hauls at a range of winds hauls alike at a part of it, and it has touched before it hooks. -/
import Derived.Test.YtliddinpfgpnfaaL8
namespace Go.Proofs.Ytliddinpfgpnfaa
open Go.RowKit

theorem bear_half {cable : Int} {X Y : List Int} {V : List (List Int)} {lo lo' hi : Int} (h : OnH cable X Y V lo hi) (h' : OnH cable X Y V lo' hi) (hl : lo ≤ lo') {n W : Int} (h0 : 0 ≤ n) (h1 : n ≤ cable)
    (hb : bearB X Y V lo hi n W = true) : bearB X Y V lo' hi n W = true := by
  rw [bear_low h h0 h1, decide_eq_true_eq] at hb
  rw [bear_low h' h0 h1, decide_eq_true_eq]
  have hwd := h'.wind
  obtain ⟨x, y, x1, x2, y1, y2, e⟩ := lowB_at h'.tab (h'.lies h0 h1) h'.lie (Int.le_refl n) hwd
  obtain rfl : x = n := by omega
  rw [e]
  exact Int.le_trans hb (lowB_le h.tab (h.lies h0 h1) h.lie (Int.le_refl _) (Int.le_refl _) (by omega) (by omega))

theorem ref_half {cable : Int} {X Y : List Int} {V : List (List Int)} {charge lo lo' hi : Int} (h : OnH cable X Y V lo hi) (h' : OnH cable X Y V lo' hi) (hl : lo ≤ lo') {s s' : Hg} {k : Nat} (hv : Vd cable k s) {kd n : Int}
    (hd : refO cable X Y V charge lo hi s kd n = some s') : refO cable X Y V charge lo' hi s kd n = some s' := by
  obtain ⟨l0, l1, w0, s0, s1, c0, c1⟩ := hv
  have hb := fun {m W : Int} (h0 : 0 ≤ m) (h1 : m ≤ cable) (e : bearB X Y V lo hi m W = true) => bear_half h h' hl h0 h1 e
  unfold refO at hd ⊢
  by_cases hc : s.cut = true
  · rw [if_pos hc] at hd; cases hd
  rw [if_neg hc] at hd ⊢
  by_cases k1 : kd = 1
  · rw [if_pos k1] at hd ⊢
    split at hd
    · rename_i q
      obtain ⟨a, b, c, d, e⟩ := q
      rw [if_pos ⟨a, b, c, d, fun w => hb c d (e w)⟩]; exact hd
    · cases hd
  rw [if_neg k1] at hd ⊢
  by_cases k2 : kd = 2
  · rw [if_pos k2] at hd ⊢
    split at hd
    · rename_i q
      obtain ⟨a, b, c, d, e⟩ := q
      rw [if_pos ⟨a, b, c, d, fun w => hb c d (e w)⟩]; exact hd
    · cases hd
  rw [if_neg k2] at hd ⊢
  by_cases k3 : kd = 3
  · rw [if_pos k3] at hd ⊢; exact hd
  rw [if_neg k3] at hd ⊢
  by_cases k4 : kd = 4
  · rw [if_pos k4] at hd ⊢
    split at hd
    · rename_i q
      obtain ⟨a, b, c, d, e, f⟩ := q
      rw [if_pos ⟨a, b, c, d, e, hb l0 l1 f⟩]; exact hd
    · cases hd
  rw [if_neg k4] at hd ⊢
  exact hd

theorem run_half {cable : Int} {X Y : List Int} {V : List (List Int)} {charge lo lo' hi : Int} (h : OnH cable X Y V lo hi) (h' : OnH cable X Y V lo' hi) (hl : lo ≤ lo') (l : List (Int × Int)) :
    ∀ (s e : Hg) (k : Nat), Vd cable k s → runO (refO cable X Y V charge lo hi) s k l = .inl e → runO (refO cable X Y V charge lo' hi) s k l = .inl e := by
  induction l with
  | nil => intro s e k _ hr; exact hr
  | cons x l ih =>
    intro s e k hv hr
    simp only [runO] at hr ⊢
    cases hd : refO cable X Y V charge lo hi s x.1 x.2 with
    | none => rw [hd] at hr; cases hr
    | some s' =>
      rw [hd] at hr
      rw [ref_half h h' hl hv hd]
      exact ih s' e (k + 1) (doO_valid (charge := charge) (by have := h.cab; omega) hv (by rw [do_ref h hv]; exact hd)) hr

/-- What the law's loop knows ahead of index i: the last touch, and how many steps lie behind it. -/
def Tch (tc : Int) (s : Hg) (i : Nat) : Prop := (-1 ≤ tc ∧ tc < (i : Int)) ∧ (s.t = true → 0 ≤ tc ∧ s.S = (i : Int) - tc - 1)

theorem tch0 : Tch (-1) h0 0 := ⟨⟨by decide, by decide⟩, fun h => by cases h⟩

theorem touch_step {cable : Int} {X Y : List Int} {V : List (List Int)} {charge lo hi : Int} {s s' : Hg} {kd n tc : Int} {i : Nat} (hd : refO cable X Y V charge lo hi s kd n = some s') (hT : Tch tc s i) :
    Tch (if kd = 3 then (i : Int) else tc) s' (i + 1) ∧ (kd = 4 → 0 ≤ tc ∧ (i : Int) - tc ≤ charge) ∧ (kd = 6 → s'.cut = true) := by
  obtain ⟨t0, t1⟩ := hT
  unfold refO at hd
  by_cases hc : s.cut = true
  · rw [if_pos hc] at hd; cases hd
  rw [if_neg hc] at hd
  by_cases k1 : kd = 1
  · rw [if_pos k1] at hd
    split at hd
    · cases hd; subst k1
      refine ⟨?_, fun h => absurd h (by decide), fun h => absurd h (by decide)⟩
      rw [if_neg (by decide)]
      refine ⟨⟨t0.1, by omega⟩, fun h => ?_⟩
      obtain ⟨a, b⟩ := t1 h
      refine ⟨a, ?_⟩
      show s.S + 1 = _
      omega
    · cases hd
  rw [if_neg k1] at hd
  by_cases k2 : kd = 2
  · rw [if_pos k2] at hd
    split at hd
    · cases hd; subst k2
      refine ⟨?_, fun h => absurd h (by decide), fun h => absurd h (by decide)⟩
      rw [if_neg (by decide)]
      refine ⟨⟨t0.1, by omega⟩, fun h => ?_⟩
      obtain ⟨a, b⟩ := t1 h
      refine ⟨a, ?_⟩
      show s.S + 1 = _
      omega
    · cases hd
  rw [if_neg k2] at hd
  by_cases k3 : kd = 3
  · rw [if_pos k3] at hd
    split at hd
    · cases hd; subst k3
      refine ⟨?_, fun h => absurd h (by decide), fun h => absurd h (by decide)⟩
      rw [if_pos rfl]
      refine ⟨⟨by omega, by omega⟩, fun h => ⟨by omega, ?_⟩⟩
      show (0 : Int) = _
      omega
    · cases hd
  rw [if_neg k3] at hd ⊢
  by_cases k4 : kd = 4
  · rw [if_pos k4] at hd
    split at hd
    · rename_i q
      obtain ⟨-, -, -, a, b, -⟩ := q
      obtain ⟨c, d⟩ := t1 a
      cases hd; subst k4
      refine ⟨⟨⟨t0.1, by omega⟩, fun h => ⟨c, ?_⟩⟩, fun _ => ⟨c, by omega⟩, fun h => absurd h (by decide)⟩
      show s.S + 1 = _
      omega
    · cases hd
  rw [if_neg k4] at hd
  refine ⟨?_, fun h => absurd h k4, ?_⟩
  · by_cases k5 : kd = 5
    · rw [if_pos k5] at hd
      split at hd
      · cases hd; exact ⟨⟨t0.1, by omega⟩, fun h => by obtain ⟨a, b⟩ := t1 h; exact ⟨a, by show s.S + 1 = _; omega⟩⟩
      · cases hd
    rw [if_neg k5] at hd
    by_cases k6 : kd = 6
    · rw [if_pos k6] at hd
      split at hd
      · cases hd; exact ⟨⟨t0.1, by omega⟩, fun h => by obtain ⟨a, b⟩ := t1 h; exact ⟨a, by show s.S + 1 = _; omega⟩⟩
      · cases hd
    · rw [if_neg k6] at hd; cases hd
  · intro h6
    subst h6
    rw [if_neg (by decide), if_pos rfl] at hd
    split at hd
    · cases hd; rfl
    · cases hd

theorem cut_end {cable : Int} {X Y : List Int} {V : List (List Int)} {charge lo hi : Int} {s e : Hg} {k : Nat} {l : List (Int × Int)} (hc : s.cut = true) (hr : runO (refO cable X Y V charge lo hi) s k l = .inl e) : l = [] := by
  cases l with
  | nil => rfl
  | cons x l => simp [runO, refO, hc] at hr

end Go.Proofs.Ytliddinpfgpnfaa
