/- Contracts: Keeps and Gust. -/
import Derived.Test.YtliddinpfgpnfaaA35
import Derived.Test.YtliddinpfgpnfaaA38
import Derived.OwnWalk
namespace Go.Proofs.Ytliddinpfgpnfaa
open Go Go.RowKit Go.Sort
set_option linter.unusedSimpArgs false
set_option linter.unusedVariables false

/-- What right sets are. -/
structure Right (num damp D : Int) (bs : List (Int × Int)) (g : Int × Int) (n : Int) (lims : List (Int × Int)) (l0 h0 l1 h1 : Int) (m : Nat) : Prop where
  bs : bs = [(l0, h0), (l1, h1)]
  n : n = (m : Int)
  m : m ≤ 16
  ok : ok3 num damp D
  small : SmallS (l0, h0) (l1, h1) g
  le0 : l0 ≤ h0
  le1 : l1 ≤ h1
  leg : g.1 ≤ g.2
  b0 : -1000 ≤ l0 ∧ h0 ≤ 1000
  b1 : -1000 ≤ l1 ∧ h1 ≤ 1000
  bg : -100 ≤ g.1 ∧ g.2 ≤ 100
  lims : ∀ p ∈ lims, p.1 ≤ p.2 ∧ -1000000 ≤ p.1 ∧ p.2 ≤ 1000000

theorem sets_zero {num damp D : Int} {bs : List (Int × Int)} {g : Int × Int} {n : Int} {lims : List (Int × Int)} (h : setsE num damp D bs g n lims = 0) :
    ∃ l0 h0 l1 h1 m, Right num damp D bs g n lims l0 h0 l1 h1 m := by
  unfold setsE at h
  split at h
  · rename_i k1
    split at h
    · rename_i k2
      obtain ⟨k2, k3, k4⟩ := k2
      unfold numE at h
      split at h
      · rename_i k5
        unfold numB at k5
        split at k5
        · rename_i p q
          obtain ⟨l0, h0⟩ := p
          obtain ⟨l1, h1⟩ := q
          simp only [inB1, wi, Bool.and_eq_true, decide_eq_true_eq] at k5
          obtain ⟨⟨⟨⟨a1, a2⟩, a3, a4⟩, a5, a6⟩, a7, a8⟩ := k5
          have z0 := (vs_le (boxE_zero k2 (l0, h0) (by simp))).1
          have z1 := (vs_le (boxE_zero k2 (l1, h1) (by simp))).1
          have z2 := (vs_le k3).1
          refine ⟨l0, h0, l1, h1, n.toNat, rfl, by omega, by omega, slingV_ok k1, smallS ⟨?_, ?_⟩ ⟨?_, ?_⟩ ⟨?_, ?_⟩, z0, z1, z2, ⟨a1, a2⟩, ⟨a3, a4⟩, ⟨a5, a6⟩, ?_⟩
          · dsimp only; omega
          · dsimp only; omega
          · dsimp only; omega
          · dsimp only; omega
          · omega
          · omega
          · intro p hp
            rw [List.any_eq_false] at k4
            have := k4 p hp
            simp only [badS, Bool.not_eq_true, Bool.not_eq_false'] at this
            exact vs_le this
        · cases k5
      · omega
    · omega
  · omega

def keepsT (num damp D : Int) (bs : List (Int × Int)) (g : Int × Int) (n : Int) (l : Int × Int) : Int := if setsE num damp D bs g n [l] = 0 then kT (outB num damp D (bs.getD 0 (0, 0)) (bs.getD 1 (0, 0)) g l.1 l.2) n.toNat else 0
def keepsB (num damp D : Int) (bs : List (Int × Int)) (g : Int × Int) (n : Int) (l : Int × Int) : Bool := if setsE num damp D bs g n [l] = 0 then !kB (outB num damp D (bs.getD 0 (0, 0)) (bs.getD 1 (0, 0)) g l.1 l.2) n.toNat else false

def KeepsV (num damp D : Int) (bs : List (Int × Int)) (g : Int × Int) (n : Int) (l : Int × Int) : Value := .tuple #[.int .i64 (keepsT num damp D bs g n l), .bool (keepsB num damp D bs g n l), .int .i64 (setsE num damp D bs g n [l])]

set_option maxRecDepth 100000 in
set_option maxHeartbeats 3200000 in
theorem sling_Keeps (num damp D : Int) (vb : Value) (bs : List (Int × Int)) (gl gh n ll lh : Int) (w : World) (hR : RP w vb bs) (hl : bs.length ≤ 1000000000000000000) :
    Calls Try.prog 35 #[.agg #[.int .i64 num, .int .i64 damp, .int .i64 D], vb, .agg #[.int .i64 gl, .int .i64 gh], .int .i64 n, .agg #[.int .i64 ll, .int .i64 lh]] w (AllBelow (KeepsV num damp D bs (gl, gh) n (ll, lh)) w) := by
  have HV := Lib.hid (show KeepsV num damp D bs (gl, gh) n (ll, lh) = .tuple #[.int .i64 (keepsT num damp D bs (gl, gh) n (ll, lh)), .bool (keepsB num damp D bs (gl, gh) n (ll, lh)), .int .i64 (setsE num damp D bs (gl, gh) n [(ll, lh)])] from rfl)
  obtain ⟨A, c, rfl, hc⟩ := hR.form
  have B4 : ∀ o1 o2 o3 o4, Below w.heap.size w ((((w.alloc o1).alloc o2).alloc o3).alloc o4) := fun o1 o2 o3 o4 => ((((Below.refl _ _).alloc (Nat.le_refl _) _).alloc (by simp) _).alloc (by simp; omega) _).alloc (by simp; omega) _
  have HN := fun (W : World) (hW : Below w.heap.size w W) (vl : Value) (hL : RP W vl [(ll, lh)]) => sling_newSet num damp D (.slice A bs.length c) bs gl gh n vl [(ll, lh)] W (hR.below hW) hl hL (by simp)
  by_cases hE : setsE num damp D bs (gl, gh) n [(ll, lh)] = 0
  · have HE := Lib.hid hE
    clear hE
    obtain ⟨l0, h0, l1, h1, m, hr⟩ := sets_zero HE.out
    obtain ⟨rfl, rfl, hm, hok, hS, _, _, _, _, _, _, hlim⟩ := hr
    obtain ⟨q1, q2, q3⟩ := hlim (ll, lh) (by simp)
    dsimp only at q1 q2 q3
    have hK := Lib.hid (show keepsT num damp D [(l0, h0), (l1, h1)] (gl, gh) m (ll, lh) = kT (outB num damp D (l0, h0) (l1, h1) (gl, gh) ll lh) m ∧ keepsB num damp D [(l0, h0), (l1, h1)] (gl, gh) m (ll, lh) = !kB (outB num damp D (l0, h0) (l1, h1) (gl, gh) ll lh) m by
      rw [keepsT, keepsB, if_pos HE.out, if_pos HE.out]; exact ⟨rfl, rfl⟩)
    go_enter Try.func35, Try.ntmps35
    go_wp2_with fail
    refine (HN _ (B4 _ _ _ _) _ (RP.one (by have := heap_alloc_new (((w.alloc (.cells #[.int .i64 num, .int .i64 damp, .int .i64 D] 23)).alloc (.cells #[.int .i64 gl, .int .i64 gh] 27)).alloc (.cells #[.int .i64 ll, .int .i64 lh] 27)) (.cells #[.int .i64 ll, .int .i64 lh] 27); simpa using this))).mono ?_
    rintro e w1 ⟨p, rfl, hb1, hp⟩
    obtain ⟨L, rfl, hL1, hblk⟩ := hp HE.out
    rw [HE.out]
    have E1 := (B4 _ _ _ _).trans (hb1.mono (by simp; omega))
    have hc1 := hb1.cell (p := ⟨w.heap.size + 1 + 1, 0, none⟩) (by simp)
    have hc2 := hb1.cell (p := ⟨w.heap.size + 1 + 1, 1, none⟩) (by simp)
    simp [go_sem] at hc1 hc2
    have Hblk := Lib.hid hblk
    clear hblk hp
    have HKc := fun (W : World) (hW : W.heap[L]? = some (setC num damp D (.slice A 2 c) gl gh)) (hRW : RP W (.slice A 2 c) [(l0, h0), (l1, h1)]) => sling_keeps L num damp D gl gh l0 h0 l1 h1 ll lh (.slice A 2 c) m W hW hRW hok hm hS (by omega) (by omega)
    go_wp2_with fail
    refine (HKc _ Hblk.out (hR.below E1)).mono ?_
    rintro e w2 ⟨rfl, hb2⟩
    have E2 := E1.trans (hb2.mono E1.size)
    go_wp2_with fail
    go_ret3
    refine ⟨?_, E2⟩
    rw [HV.out, hK.out.1, hK.out.2, HE.out]
    rfl
  · have HE := Lib.hid (show keepsT num damp D bs (gl, gh) n (ll, lh) = 0 ∧ keepsB num damp D bs (gl, gh) n (ll, lh) = false by rw [keepsT, keepsB, if_neg hE, if_neg hE]; exact ⟨rfl, rfl⟩)
    have e1 : (setsE num damp D bs (gl, gh) n [(ll, lh)] != 0) = true := by simpa using hE
    clear hE
    go_enter Try.func35, Try.ntmps35
    go_wp2_with fail
    refine (HN _ (B4 _ _ _ _) _ (RP.one (by have := heap_alloc_new (((w.alloc (.cells #[.int .i64 num, .int .i64 damp, .int .i64 D] 23)).alloc (.cells #[.int .i64 gl, .int .i64 gh] 27)).alloc (.cells #[.int .i64 ll, .int .i64 lh] 27)) (.cells #[.int .i64 ll, .int .i64 lh] 27); simpa using this))).mono ?_
    rintro e w1 ⟨p, rfl, hb1, hp⟩
    have E1 := (B4 _ _ _ _).trans (hb1.mono (by simp; omega))
    clear hp
    go_wp2_with fail
    go_ret3
    refine ⟨?_, E1⟩
    rw [HV.out, HE.out.1, HE.out.2]
    rfl

/-- With gusts up to g on both sides the load keeps the limit. -/
def gq (num damp D : Int) (b0 b1 : Int × Int) (ll lh : Int) (n g : Nat) : Bool := !kB (outB num damp D b0 b1 (-(g : Int), (g : Int)) ll lh) n

def gustR (num damp D : Int) (bs : List (Int × Int)) (n : Int) (l : Int × Int) : Int × Int :=
  if setsE num damp D bs (0, 0) n [l] = 0 then
    match gDown (gq num damp D (bs.getD 0 (0, 0)) (bs.getD 1 (0, 0)) l.1 l.2 n.toNat) 100 with
    | some g => ((g : Int), 0)
    | none => (0, 3)
  else (0, setsE num damp D bs (0, 0) n [l])

def GustV (num damp D : Int) (bs : List (Int × Int)) (n : Int) (l : Int × Int) : Value := .tuple #[.int .i64 (gustR num damp D bs n l).1, .int .i64 (gustR num damp D bs n l).2]

theorem gDown_step {q : Nat → Bool} {g : Nat} (h : q g = false) : gDown q g = if g = 0 then none else gDown q (g - 1) := by
  match g with
  | 0 => simp [gDown, h]
  | g + 1 => simp [gDown, h]

theorem gDown_hit {q : Nat → Bool} {g : Nat} (h : q g = true) : gDown q g = some g := by
  match g with
  | 0 => simp [gDown, h]
  | g + 1 => simp [gDown, h]

theorem set_gusts {w : World} {L : Nat} {num damp D gl gh gl' gh' : Int} {vb : Value} (h : w.heap[L]? = some (setC num damp D vb gl gh)) :
    ((w.setCell ⟨L, 4, none⟩ (.int .i64 gl')).setCell ⟨L, 5, none⟩ (.int .i64 gh')).heap[L]? = some (setC num damp D vb gl' gh') := by
  rw [heap_setCell_at (heap_setCell_at h _)]
  rfl

theorem small_gust {l0 h0 l1 h1 : Int} {g : Int × Int} (hS : SmallS (l0, h0) (l1, h1) g) {k : Nat} (hk : k ≤ 100) : SmallS (l0, h0) (l1, h1) (-(k : Int), (k : Int)) := by
  have a := hS 0
  have b := hS 1
  simp [spanAt] at a b
  exact smallS ⟨a.1, a.2⟩ ⟨b.1, b.2⟩ ⟨by dsimp only; omega, by dsimp only; omega⟩

set_option maxRecDepth 100000 in
set_option maxHeartbeats 3200000 in
theorem sling_Gust (num damp D : Int) (vb : Value) (bs : List (Int × Int)) (n ll lh : Int) (w : World) (hR : RP w vb bs) (hl : bs.length ≤ 1000000000000000000) :
    Calls Try.prog 37 #[.agg #[.int .i64 num, .int .i64 damp, .int .i64 D], vb, .int .i64 n, .agg #[.int .i64 ll, .int .i64 lh]] w (AllBelow (GustV num damp D bs n (ll, lh)) w) := by
  have HV := Lib.hid (show GustV num damp D bs n (ll, lh) = .tuple #[.int .i64 (gustR num damp D bs n (ll, lh)).1, .int .i64 (gustR num damp D bs n (ll, lh)).2] from rfl)
  obtain ⟨A, c, rfl, hc⟩ := hR.form
  have B3 : ∀ o1 o2 o3, Below w.heap.size w (((w.alloc o1).alloc o2).alloc o3) := fun o1 o2 o3 => (((Below.refl _ _).alloc (Nat.le_refl _) _).alloc (by simp) _).alloc (by simp; omega) _
  have HN := fun (W : World) (hW : Below w.heap.size w W) (vl : Value) (hL : RP W vl [(ll, lh)]) => sling_newSet num damp D (.slice A bs.length c) bs 0 0 n vl [(ll, lh)] W (hR.below hW) hl hL (by simp)
  by_cases hE : setsE num damp D bs (0, 0) n [(ll, lh)] = 0
  · have HE := Lib.hid hE
    clear hE
    obtain ⟨l0, h0, l1, h1, m, hr⟩ := sets_zero HE.out
    obtain ⟨rfl, rfl, hm, hok, hS, _, _, _, _, _, _, hlim⟩ := hr
    obtain ⟨q1, q2, q3⟩ := hlim (ll, lh) (by simp)
    dsimp only at q1 q2 q3
    have hG := Lib.hid (show gustR num damp D [(l0, h0), (l1, h1)] m (ll, lh) = match gDown (gq num damp D (l0, h0) (l1, h1) ll lh m) 100 with | some g => ((g : Int), 0) | none => (0, 3) by
      rw [gustR, if_pos HE.out]; rfl)
    go_enter Try.func37, Try.ntmps37
    go_wp2_with fail
    refine (HN _ (B3 _ _ _) _ (RP.one (by have := heap_alloc_new ((w.alloc (.cells #[.int .i64 num, .int .i64 damp, .int .i64 D] 23)).alloc (.cells #[.int .i64 ll, .int .i64 lh] 27)) (.cells #[.int .i64 ll, .int .i64 lh] 27); simpa using this))).mono ?_
    rintro e w1 ⟨p, rfl, hb1, hp⟩
    obtain ⟨L, rfl, hL1, hblk⟩ := hp HE.out
    rw [HE.out]
    have E1 := (B3 _ _ _).trans (hb1.mono (by simp; omega))
    have hT := (hb1.block (w.heap.size + 1) (by simp)).trans (show _ = some (.cells #[.int .i64 ll, .int .i64 lh] 27 (0, 0)) by rw [Below.heap_alloc _ _ _ (by simp)]; have := heap_alloc_new (w.alloc (.cells #[.int .i64 num, .int .i64 damp, .int .i64 D] 23)) (.cells #[.int .i64 ll, .int .i64 lh] 27); simpa using this)
    have hL2 : w.heap.size + 1 + 1 < L := by simp at hL1; omega
    have HT := Lib.hid hT
    have Hblk := Lib.hid hblk
    clear hblk hp hT hL1
    go_wp2_with fail
    go_loopw [12] (fun s12 wr => Below (w.heap.size + 1 + 1) w1 wr ∧ (∃ gl gh : Int, wr.heap[L]? = some (setC num damp D (.slice A 2 c) gl gh)) ∧ ((∃ g : Nat, s12 = .int .i64 g ∧ g ≤ 100 ∧ gDown (gq num damp D (l0, h0) (l1, h1) ll lh m) 100 = gDown (gq num damp D (l0, h0) (l1, h1) ll lh m) g) ∨ (s12 = .int .i64 (-1) ∧ gDown (gq num damp D (l0, h0) (l1, h1) ll lh m) 100 = none))) (fun s12 _ => (intOf s12 + 1).toNat)
    case atStart => exact ⟨Below.refl _ _, ⟨_, _, Hblk.out⟩, Or.inl ⟨100, rfl, by omega, rfl⟩⟩
    case round =>
      obtain ⟨hbl, ⟨gl, gh, hbk⟩, hs⟩ := hrel
      have hTr := (hbl.block (w.heap.size + 1) (by omega)).trans HT.out
      have x0 := (blk_cells hTr 0).1
      have x1 := (blk_cells hTr 1).1
      simp only [Array.getElem?_eq_getElem, List.size_toArray, List.length_cons, List.length_nil, Nat.reduceAdd, Nat.reduceLT, List.getElem_toArray, List.getElem_cons_zero, List.getElem_cons_succ] at x0 x1
      have ER := E1.trans (hbl.mono (by omega))
      rcases hs with ⟨g, rfl, hg, hd⟩ | ⟨rfl, hd⟩
      · have Hd := Lib.hid hd
        clear hd
        have y4 := (blk_cells hbk 4).2
        have y5 := (blk_cells hbk 5).2
        have z4 := (blk_cells hbk 4).1
        have z5 := (blk_cells hbk 5).1
        simp only [Array.getElem?_eq_getElem, List.size_toArray, List.length_cons, List.length_nil, Nat.reduceAdd, Nat.reduceLT, List.getElem_toArray, List.getElem_cons_zero, List.getElem_cons_succ] at z4 z5
        have i1 : (0 : Int) ≤ (g : Int) := by omega
        have i2 : IntKind.i64.wrap (-(g : Int)) = -(g : Int) := IntWalk.i64_in _ (by omega)
        have n1 : w.heap.size + 1 ≠ L := by omega
        have uL := hp_lt hbk
        have Hbk := Lib.hid (set_gusts (gl' := -(g : Int)) (gh' := (g : Int)) hbk)
        have HE2 := Lib.hid (((Below.refl (w.heap.size + 1 + 1) wr).setCell (p := ⟨L, 4, none⟩) (by show _ ≤ L; omega) (.int .i64 (-(g : Int)))).setCell (p := ⟨L, 5, none⟩) (by show _ ≤ L; omega) (.int .i64 (g : Int)))
        have HKc := fun (W : World) (hW : W.heap[L]? = some (setC num damp D (.slice A 2 c) (-(g : Int)) (g : Int))) (hRW : RP W (.slice A 2 c) [(l0, h0), (l1, h1)]) => sling_keeps L num damp D (-(g : Int)) (g : Int) l0 h0 l1 h1 ll lh (.slice A 2 c) m W hW hRW hok hm (small_gust hS hg) (by omega) (by omega)
        cases hq : gq num damp D (l0, h0) (l1, h1) ll lh m g
        · have hkb : kB (outB num damp D (l0, h0) (l1, h1) (-(g : Int), (g : Int)) ll lh) m = true := by simpa [gq] using hq
          rw [hkb] at HKc
          have Hq := Lib.hid hq
          clear hq hkb hbk
          go_wp2_with fail
          refine (HKc _ Hbk.out (hR.below (ER.trans (HE2.out.mono (by omega))))).mono ?_
          rintro e w2 ⟨rfl, hb2⟩
          have hb2' := HE2.out.trans (hb2.mono (by have := HE2.out.size; have := hbl.size; simp [World.setCell] at *; omega))
          go_wp2_with fail
          go_roundw
          case rel =>
            refine ⟨hbl.trans hb2', ⟨_, _, (hb2.block L (by simp [World.setCell]; omega)).trans Hbk.out⟩, ?_⟩
            have hst := gDown_step Hq.out
            by_cases h0 : g = 0
            · right; subst h0; exact ⟨rfl, by rw [Hd.out, hst]; rfl⟩
            · left; exact ⟨g - 1, by rw [show ((g - 1 : Nat) : Int) = (g : Int) - 1 by omega], by omega, by rw [Hd.out, hst, if_neg h0]⟩
          case measure => simp [intOf]
        · have hkb : kB (outB num damp D (l0, h0) (l1, h1) (-(g : Int), (g : Int)) ll lh) m = false := by simpa [gq] using hq
          rw [hkb] at HKc
          have Hq := Lib.hid hq
          clear hq hkb hbk
          go_wp2_with fail
          refine (HKc _ Hbk.out (hR.below (ER.trans (HE2.out.mono (by omega))))).mono ?_
          rintro e w2 ⟨rfl, hb2⟩
          have hb2' := HE2.out.trans (hb2.mono (by have := HE2.out.size; have := hbl.size; simp [World.setCell] at *; omega))
          go_wp2_with fail
          go_ret2
          refine ⟨?_, ER.trans (hb2'.mono (by omega))⟩
          rw [HV.out, hG.out, Hd.out, gDown_hit Hq.out]
          rfl
      · have Hd := Lib.hid hd
        clear hd
        go_wp2
        go_ret2
        refine ⟨?_, ER⟩
        rw [HV.out, hG.out, Hd.out]
        rfl
  · have HE := Lib.hid (show gustR num damp D bs n (ll, lh) = (0, setsE num damp D bs (0, 0) n [(ll, lh)]) by rw [gustR, if_neg hE])
    have e1 : (setsE num damp D bs (0, 0) n [(ll, lh)] != 0) = true := by simpa using hE
    clear hE
    go_enter Try.func37, Try.ntmps37
    go_wp2_with fail
    refine (HN _ (B3 _ _ _) _ (RP.one (by have := heap_alloc_new ((w.alloc (.cells #[.int .i64 num, .int .i64 damp, .int .i64 D] 23)).alloc (.cells #[.int .i64 ll, .int .i64 lh] 27)) (.cells #[.int .i64 ll, .int .i64 lh] 27); simpa using this))).mono ?_
    rintro e w1 ⟨p, rfl, hb1, hp⟩
    have E1 := (B3 _ _ _).trans (hb1.mono (by simp; omega))
    clear hp
    go_wp2_with fail
    go_ret2
    refine ⟨?_, E1⟩
    rw [HV.out, HE.out]
    rfl

end Go.Proofs.Ytliddinpfgpnfaa
