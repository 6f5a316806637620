/- Contract: newSet. -/
import Derived.Test.YtliddinpfgpnfaaA34
namespace Go.Proofs.Ytliddinpfgpnfaa
open Go Go.RowKit Go.Sort
set_option linter.unusedSimpArgs false
set_option linter.unusedVariables false

/-- A slice of slices of one span each, of the call's own. -/
def OwnB (w : World) (v : Value) (l : List (Int × Int)) : Prop :=
  (∃ (b : Nat) (cs : List Value), w.ownsRow b 65 1 v l.length cs ∧ ∀ (j : Nat) (u : Value), cs[j]? = some u → ∃ p, l[j]? = some p ∧ One w u p) ∧ (l.length = 0 → v = .slice none 0 0)

theorem OwnB.below {w w' : World} {v : Value} {l : List (Int × Int)} (h : OwnB w v l) (hb : Below w.heap.size w w') : OwnB w' v l := by
  obtain ⟨⟨b, cs, h1, h2⟩, h3⟩ := h
  exact ⟨⟨b, cs, own_below h1 hb, fun j u hu => by obtain ⟨p, e, r⟩ := h2 j u hu; exact ⟨p, e, r.below hb⟩⟩, h3⟩

theorem BoxAt.owned {W : World} {l : List (Int × Int)} {v : Value} {w : World} (h : BoxAt W l l.length v w) : OwnB w v l := by
  obtain ⟨cs, h1, h2⟩ := h.own
  exact ⟨⟨_, cs, h1, h2⟩, h.nil⟩

theorem lit24 {w : World} {base : Nat} {u v : Value} (hb : base ≤ w.heap.size) : (w.alloc (.cells #[u, v] 65)).ownsRow base 65 1 (.slice (some ⟨w.heap.size, 0, none⟩) 2 2) 2 [u, v] := by
  have := World.ownsRow_lit (base := base) (e := 65) (size := 1) w #[u, v] 2 hb (by decide) rfl
  simpa using this

/-- The list of boxes that newSet checks. -/
def nsL (bs : List (Int × Int)) (g : Int × Int) (lims : List (Int × Int)) : List (List (Int × Int)) := bs :: [g] :: lims.map fun p => [p]

theorem nsL_len (bs : List (Int × Int)) (g : Int × Int) (lims : List (Int × Int)) : (nsL bs g lims).length = 2 + lims.length := by simp [nsL]; omega

theorem app_box {w0 wc w' : World} {base : Nat} {vb u v v' : Value} {bs lims : List (Int × Int)} {g : Int × Int} {cs : List Value} (hR : RP w0 vb bs) (h0 : Below w0.heap.size w0 wc) (hbase : w0.heap.size ≤ base) (hown : wc.ownsRow base 65 1 v 2 [vb, u]) (hu : One wc u g)
    (hcs : ∀ (j : Nat) (u : Value), cs[j]? = some u → ∃ p, lims[j]? = some p ∧ One wc u p) (ho : w'.ownsRow base 65 1 v' (2 + lims.length) ([vb, u] ++ cs)) (hg : wc.grownBy w' v.ownBlock) : BX w' v' (nsL bs g lims) := by
  have hlt := hown.lt
  refine ⟨_, by rw [nsL_len]; exact RS.of_own ho, fun j x hx => ?_⟩
  have hF : Below w0.heap.size w0 w' := h0.grown hg h0.size (fun k hk => by have := hlt k hk; omega)
  match j with
  | 0 => simp at hx; subst hx; exact ⟨bs, rfl, hR.below hF⟩
  | 1 =>
    simp at hx; subst hx
    obtain ⟨b, rfl, hr⟩ := hu.grown hown hg
    exact ⟨[g], rfl, RP.one hr⟩
  | j + 2 =>
    simp at hx
    obtain ⟨p, hp, hq⟩ := hcs j x hx
    obtain ⟨b, rfl, hr⟩ := hq.grown hown hg
    exact ⟨[p], by simp [nsL, hp], RP.one hr⟩

theorem One.cell1 {w : World} {u : Value} {p : Int × Int} (h : One w u p) : u.oneCell' = true := by obtain ⟨b, rfl, _⟩ := h; rfl

theorem own_cells1 {w : World} {cs : List Value} {l : List (Int × Int)} (h : ∀ (j : Nat) (u : Value), cs[j]? = some u → ∃ p, l[j]? = some p ∧ One w u p) : ∀ u ∈ cs, u.oneCell' = true := by
  intro u hu
  obtain ⟨j, hj, rfl⟩ := List.getElem_of_mem hu
  obtain ⟨p, _, h2⟩ := h j _ (List.getElem?_eq_getElem hj)
  exact h2.cell1

abbrev nsW (num damp D gl gh : Int) (w : World) : World := (w.alloc (.cells #[.int .i64 num, .int .i64 damp, .int .i64 D] 23)).alloc (.cells #[.int .i64 gl, .int .i64 gh] 27)

theorem nsW_below (num damp D gl gh : Int) (w : World) : Below w.heap.size w (nsW num damp D gl gh w) := ((Below.refl _ _).alloc (Nat.le_refl _) _).alloc (by simp) _

theorem nsW_cells {num damp D gl gh : Int} {w wr : World} (h : Below (w.heap.size + 1 + 1) (nsW num damp D gl gh w) wr) :
    (wr.cell? ⟨w.heap.size, 0, none⟩ = some (.int .i64 num) ∧ wr.cell? ⟨w.heap.size, 1, none⟩ = some (.int .i64 damp) ∧ wr.cell? ⟨w.heap.size, 2, none⟩ = some (.int .i64 D)) ∧
    (wr.cell? ⟨w.heap.size + 1, 0, none⟩ = some (.int .i64 gl) ∧ wr.cell? ⟨w.heap.size + 1, 1, none⟩ = some (.int .i64 gh)) ∧ w.heap.size + 1 < wr.heap.size := by
  have h0 := (h.block w.heap.size (by omega)).trans ((Below.heap_alloc _ _ _ (by simp)).trans (heap_alloc_new w _))
  have e1 : (nsW num damp D gl gh w).heap[w.heap.size + 1]? = some (.cells #[.int .i64 gl, .int .i64 gh] 27 (0, 0)) := by
    have := heap_alloc_new (w.alloc (.cells #[.int .i64 num, .int .i64 damp, .int .i64 D] 23)) (.cells #[.int .i64 gl, .int .i64 gh] 27)
    rwa [show (w.alloc (.cells #[.int .i64 num, .int .i64 damp, .int .i64 D] 23)).heap.size = w.heap.size + 1 by simp] at this
  have h1 := (h.block (w.heap.size + 1) (by omega)).trans e1
  refine ⟨?_, ?_, ?_⟩
  · simp [blk_cells h0]
  · simp [blk_cells h1]
  · have := h.size; simp at this; omega

def SetPost (num damp D : Int) (vb : Value) (bs : List (Int × Int)) (gl gh n : Int) (lims : List (Int × Int)) (w : World) (e : Ending) (w' : World) : Prop :=
  ∃ p, e = .returned (.tuple #[p, .int .i64 (setsE num damp D bs (gl, gh) n lims)]) ∧ Below w.heap.size w w' ∧
    (setsE num damp D bs (gl, gh) n lims = 0 → ∃ b, p = .pointer (some ⟨b, 0, none⟩) ∧ w.heap.size ≤ b ∧ w'.heap[b]? = some (setC num damp D vb gl gh))

theorem set_fail {num damp D : Int} {vb : Value} {bs : List (Int × Int)} {gl gh n : Int} {lims : List (Int × Int)} {w w' : World} {x : Int} (hx : setsE num damp D bs (gl, gh) n lims = x) (h0 : x ≠ 0) (hb : Below w.heap.size w w') :
    SetPost num damp D vb bs gl gh n lims w (.returned (.tuple #[.pointer none, .int .i64 x])) w' :=
  ⟨_, by rw [hx], hb, fun h => absurd (by rw [← hx]; exact h) h0⟩

/-- Behind the list of boxes. -/
def NsAt (num damp D : Int) (bs : List (Int × Int)) (gl gh : Int) (lims : List (Int × Int)) (W : World) (v : Value) (w : World) : Prop :=
  Below (W.heap.size + 1 + 1) (nsW num damp D gl gh W) w ∧ BX w v (nsL bs (gl, gh) lims)

theorem box_any {bs : List (Int × Int)} {g : Int × Int} {lims : List (Int × Int)} : (nsL bs g lims).any (fun b => boxE b != 0) = false ↔ (boxE bs = 0 ∧ vs g.1 g.2 = true ∧ lims.any badS = false) := by
  have h1 : ∀ p : Int × Int, (boxE [p] != 0) = badS p := by
    intro p
    simp [boxE, spannedE, anyBadS, badS, wi]
    cases vs p.1 p.2 <;> simp
  rw [nsL, List.any_cons, List.any_cons, h1, List.any_map]
  have h2 : (lims.any ((fun b => boxE b != 0) ∘ fun p => [p])) = lims.any badS := by
    congr 1; funext p; exact h1 p
  rw [h2]
  simp [badS]

theorem started_is {a b : Int} {r : Bool} (w : World) (h : (wi a (-1000) 1000 && wi b (-1000) 1000) = r) :
    Calls Try.prog 42 #[.agg #[.int .i64 a, .int .i64 b]] w (AllBelow (.bool r) w) := by
  subst h; exact sling_started a b w
theorem slW_is {n lo hi : Int} {r : Bool} (w : World) (h : wi n lo hi = r) : Calls Try.prog 45 #[.int .i64 n, .int .i64 lo, .int .i64 hi] w fun e w' => e = .returned (.bool r) ∧ w = w' := by
  subst h; exact sling_within n lo hi w

theorem num_facts {l0 h0 l1 h1 gl gh n : Int} (a0 : l0 ≤ h0) (a1 : l1 ≤ h1) (a2 : gl ≤ gh) :
    numE [(l0, h0), (l1, h1)] (gl, gh) n = if (wi l0 (-1000) 1000 && wi l1 (-1000) 1000) && (wi h0 (-1000) 1000 && wi h1 (-1000) 1000) && wi gl (-100) 100 && wi gh (-100) 100 && wi n 0 16 then 0 else 1 := by
  unfold numE
  congr 1
  rw [numB, Bool.eq_iff_iff]
  simp [inB1, wi]
  omega

theorem BX.form {w : World} {v : Value} {bl : List (List (Int × Int))} (h : BX w v bl) : ∃ A c, v = .slice A bl.length c ∧ bl.length ≤ c := by
  obtain ⟨cs, ⟨A, c, e, h1, _⟩, _⟩ := h; exact ⟨A, c, e, h1⟩

theorem BX.at {w : World} {v : Value} {bl : List (List (Int × Int))} {k : Nat} (h : BX w v bl) (hk : k < bl.length) :
    ∃ b o c u bx, v = .slice (some ⟨b, o, none⟩) bl.length c ∧ b < w.heap.size ∧ w.cell? ⟨b, o + k, none⟩ = some u ∧ bl[k]? = some bx ∧ RP w u bx := by
  obtain ⟨cs, h1, h2⟩ := h
  obtain ⟨b, o, c, e, k1, k2, k3⟩ := RS.open h1 (by omega)
  have hl : cs.length = bl.length := by obtain ⟨_, _, _, _, q, _⟩ := h1; omega
  obtain ⟨bx, hx, hr⟩ := h2 k cs[k] (List.getElem?_eq_getElem (by omega))
  exact ⟨b, o, c, cs[k], bx, e, k2, by simpa using k3 k _ (List.getElem?_eq_getElem (by omega)), hx, by simpa using hr⟩

theorem noneTo_any {α : Type} {p : α → Bool} {l : List α} {k : Nat} (h : noneTo p l k) (hk : l.length ≤ k) : l.any p = false := by
  rw [List.any_eq_false]
  intro x hx
  obtain ⟨j, hj, rfl⟩ := List.getElem_of_mem hx
  rw [h j _ (by omega) (List.getElem?_eq_getElem hj)]
  simp

theorem noneTo_all {α : Type} {p : α → Bool} {l : List α} (h : l.any p = false) {k : Nat} {x : α} (hx : l[k]? = some x) : p x = false := by
  rw [List.any_eq_false] at h
  simpa using h x (List.mem_of_getElem? hx)

theorem nsL_small {bs lims : List (Int × Int)} {g : Int × Int} (hl : bs.length ≤ 1000000000000000000) {k : Nat} {bx : List (Int × Int)} (h : (nsL bs g lims)[k]? = some bx) : bx.length ≤ 1000000000000000000 := by
  match k with
  | 0 => cases h; exact hl
  | 1 => cases h; simp
  | k + 2 =>
    simp [nsL] at h
    obtain ⟨a, b, _, rfl⟩ := h
    simp

theorem vs_le {lo hi : Int} (h : vs lo hi = true) : lo ≤ hi ∧ -1000000 ≤ lo ∧ hi ≤ 1000000 := by simp [vs, wi] at h; omega

theorem boxE_zero {bs : List (Int × Int)} (h : boxE bs = 0) : ∀ p ∈ bs, vs p.1 p.2 = true := by
  intro p hp
  unfold boxE spannedE at h
  split at h
  · split at h
    · omega
    · rename_i h1
      simp only [anyBadS, Bool.not_eq_true, List.any_eq_false] at h1
      have := h1 p hp
      simpa [badS] using this
  · omega

set_option maxRecDepth 100000 in
set_option maxHeartbeats 12800000 in
theorem sling_newSet (num damp D : Int) (vb : Value) (bs : List (Int × Int)) (gl gh n : Int) (vl : Value) (lims : List (Int × Int)) (w : World) (hR : RP w vb bs) (hl : bs.length ≤ 1000000000000000000) (hL : RP w vl lims) (hlim : lims.length ≤ 1000) :
    Calls Try.prog 68 #[.agg #[.int .i64 num, .int .i64 damp, .int .i64 D], vb, .agg #[.int .i64 gl, .int .i64 gh], .int .i64 n, vl] w (SetPost num damp D vb bs gl gh n lims w) := by
  have B2 := nsW_below num damp D gl gh w
  have HN := Lib.hid (show setsE num damp D bs (gl, gh) n lims = if slingV num damp D = 0 then if boxE bs = 0 ∧ vs gl gh = true ∧ lims.any badS = false then numE bs (gl, gh) n else 10 else 70 from rfl)
  obtain ⟨A, c, rfl, hc⟩ := hR.form
  obtain ⟨Al, cl, rfl, hcl⟩ := hL.form
  have HC := fun W => sling_Check num damp D W
  rcases slingV_or num damp D with k1 | k1
  · rw [k1] at HC
    have K1 := Lib.hid k1
    clear k1
    go_enter Try.func68, Try.ntmps68
    go_wp2_with (go_at_call 41; (with_reducible refine (HC _).mono ?_); rintro e wA ⟨rfl, hbA⟩)
    have GA : Below (w.heap.size + 1 + 1) (nsW num damp D gl gh w) wA := by simpa using hbA
    have EA := B2.trans (GA.mono (by omega))
    have HRA := Lib.hid (hR.below EA)
    have HLA := Lib.hid (hL.below EA)
    have sA : w.heap.size + 1 + 1 ≤ wA.heap.size := by have := GA.size; simpa using this
    clear hbA
    go_cut [27, 28, 29] (fun s27 s28 s29 wx => s28 = .int .i64 (2 + (lims.length : Int)) ∧ s29 = .int .i64 0 ∧ NsAt num damp D bs gl gh lims w s27 wx)
    case first =>
      as_aux_lemma =>
      refine wp_region_held_drew (S := fun w' => Below wA.heap.size wA w') (by kernel_rfl) ((Below.refl _ wA).drew) (fun hHeld => ?_)
      refine wpAnyH_take (i := 0) (oi := _) (v := ?_) rfl (by kernel_rfl) (by kernel_rfl) (by kernel_rfl) (fun _ _ _ h => h) (Or.inl ⟨by kernel_rfl, ?_⟩) hHeld ?_
      rotate_left
      · (intro w' hSw; ((obtain ⟨⟨q0, q1, q2⟩, ⟨q3, q4⟩, q5⟩ := nsW_cells (GA.trans (hSw.mono (by omega))))); go_simp; try (with_reducible rfl))
      simp only [Act.put, List.setIfInBounds_toArray, List.set_cons_zero, List.set_cons_succ]
      refine wpAnyH_take (i := 1) (oi := _) (v := ?_) rfl (by kernel_rfl) (by kernel_rfl) (by kernel_rfl) (fun _ _ _ h => h) (Or.inl ⟨by kernel_rfl, ?_⟩) hHeld ?_
      rotate_left
      · (intro w' hSw; ((obtain ⟨⟨q0, q1, q2⟩, ⟨q3, q4⟩, q5⟩ := nsW_cells (GA.trans (hSw.mono (by omega))))); go_simp; try (with_reducible rfl))
      simp only [Act.put, List.setIfInBounds_toArray, List.set_cons_zero, List.set_cons_succ]
      refine wpAnyH_take (i := 4) (oi := _) (v := ?_) rfl (by kernel_rfl) (by kernel_rfl) (by kernel_rfl) (fun _ _ _ h => h) (Or.inl ⟨by kernel_rfl, ?_⟩) hHeld ?_
      rotate_left
      · (intro w' hSw; ((obtain ⟨⟨q0, q1, q2⟩, ⟨q3, q4⟩, q5⟩ := nsW_cells (GA.trans (hSw.mono (by omega))))); go_simp; try (with_reducible rfl))
      simp only [Act.put, List.setIfInBounds_toArray, List.set_cons_zero, List.set_cons_succ]
      refine wpAnyH_take (i := 8) (oi := _) (v := ?_) rfl (by kernel_rfl) (by kernel_rfl) (by kernel_rfl) (fun _ _ _ h => h) (Or.inl ⟨by kernel_rfl, ?_⟩) hHeld ?_
      rotate_left
      · (intro w' hSw; ((obtain ⟨⟨q0, q1, q2⟩, ⟨q3, q4⟩, q5⟩ := nsW_cells (GA.trans (hSw.mono (by omega))))); go_simp; try (with_reducible rfl))
      simp only [Act.put, List.setIfInBounds_toArray, List.set_cons_zero, List.set_cons_succ]
      refine wpAnyH_ready (rs := [2, 5]) (by kernel_rfl) (by simp) ?_
      refine AllReadyH.cons (o := _) rfl (fun K hK => ?_) (AllReadyH.cons (o := _) rfl (fun K hK => ?_) AllReadyH.nil)
      · go_simp
        have one1 : One (wA.drew.alloc (Obj.cells #[.int .i64 gl, .int .i64 gh] 27)) (.slice (some ⟨wA.heap.size, 0, none⟩) 1 1) (gl, gh) := ⟨_, rfl, heap_alloc_new wA.drew _⟩
        have Ea : Below wA.heap.size wA (wA.drew.alloc (Obj.cells #[.int .i64 gl, .int .i64 gh] 27)) := Below.alloc (Below.drew (Below.refl wA.heap.size wA)) (Nat.le_refl _) _
        refine hK.out _ _ ?_ (fun hHeld => ?_)
        · exact Ea
        clear hK K
        try simp only [Act.put, List.setIfInBounds_toArray, List.set_cons_zero, List.set_cons_succ]
        refine wpAnyH_ready (rs := [3, 5]) (by kernel_rfl) (by simp) ?_
        refine AllReadyH.cons (o := _) rfl (fun K hK => ?_) (AllReadyH.cons (o := _) rfl (fun K hK => ?_) AllReadyH.nil)
        · go_simp
          have own2 := lit24 (u := .slice A bs.length c) (v := (.slice (some ⟨wA.heap.size, 0, none⟩) 1 1)) (w := wA.drew.alloc (Obj.cells #[.int .i64 gl, .int .i64 gh] 27)) (base := wA.heap.size) (Below.size Ea)
          have one2 := One.below one1 ((Below.refl _ _).alloc (Nat.le_refl _) (.cells #[.slice A bs.length c, (.slice (some ⟨wA.heap.size, 0, none⟩) 1 1)] 65))
          have Eb := Below.alloc Ea (Below.size Ea) (.cells #[.slice A bs.length c, (.slice (some ⟨wA.heap.size, 0, none⟩) 1 1)] 65)
          refine hK.out _ _ ?_ (fun hHeld => ?_)
          · exact Eb
          clear hK K
          try simp only [Act.put, List.setIfInBounds_toArray, List.set_cons_zero, List.set_cons_succ]
          refine wpAnyH_ready (rs := [5]) (by kernel_rfl) (by simp) ?_
          refine AllReadyH.cons (o := _) rfl (fun K hK => ?_) AllReadyH.nil
          go_simp
          go_at_call 94
          refine (sling_boxes _ lims _ (HLA.out.below (Eb)) hlim).mono ?_
          rintro e w5 ⟨vo, rfl, hbx⟩
          have Ew5 : Below wA.heap.size wA w5 := Below.trans (Eb) (Below.mono hbx.below (Below.size (Eb)))
          have HO := Lib.hid hbx.owned
          have HBX := Lib.hid hbx.below
          clear hbx
          go_wp2_with fail
          refine hK.out _ _ ?_ (fun hHeld => ?_)
          · exact Ew5
          clear hK K
          try simp only [Act.put, List.setIfInBounds_toArray, List.set_cons_zero, List.set_cons_succ]
          have own : w5.ownsRow wA.heap.size 65 1 (.slice (some ⟨wA.heap.size + 1, 0, none⟩) 2 2) 2 [.slice A bs.length c, (.slice (some ⟨wA.heap.size, 0, none⟩) 1 1)] := by have h := own_below own2 HBX.out; rwa [show (wA.drew.alloc (Obj.cells #[.int .i64 gl, .int .i64 gh] 27)).heap.size = wA.heap.size + 1 by simp] at h
          have one := One.below one2 HBX.out
          have OB := HO.out
          clear own2 one2 one1
          refine wpAnyH_ready (rs := [6]) (by kernel_rfl) (by simp) ?_
          refine AllReadyH.cons (o := _) rfl (fun K hK => ?_) AllReadyH.nil
          obtain ⟨⟨b', cs, hcs0, hcs1⟩, hnil⟩ := OB
          have HC1 := Lib.hid hcs1
          clear hcs1
          have HN0 := Lib.hid hnil
          clear hnil
          refine step_app (k := 2) (m := lims.length) rfl _ _ rfl rfl rfl own hcs0 HN0.out (own_cells1 HC1.out) (by omega) (Below.size Ew5) ?_
          intro v6 w6 ho6 hg6
          have hB6 := Lib.hid (app_box HRA.out Ew5 (Nat.le_refl _) own one HC1.out ho6 hg6)
          have E6 : Below wA.heap.size wA w6 := Below.grown Ew5 hg6 (Below.size Ew5) (fun k hk => (World.ownsRow.lt own k hk).1)
          obtain ⟨g6, c6, rfl, _⟩ := World.ownsRow.form ho6 (by omega)
          clear ho6 hg6 own one hcs0
          refine hK.out _ _ ?_ (fun hHeld => ?_)
          · exact E6
          clear hK K
          try simp only [Act.put, List.setIfInBounds_toArray, List.set_cons_zero, List.set_cons_succ]
          refine wpAnyH_ready (rs := [7]) (by kernel_rfl) (by simp) ?_
          refine AllReadyH.cons (o := _) rfl (fun K hK => ?_) AllReadyH.nil
          go_simp
          refine hK.out _ _ ?_ (fun hHeld => ?_)
          · exact E6
          clear hK K
          try simp only [Act.put, List.setIfInBounds_toArray, List.set_cons_zero, List.set_cons_succ]
          refine wpAnyH_done (by kernel_rfl) ?_ _
          go_wp2_with fail
          go_meet
          case rel => exact ⟨rfl, rfl, GA.trans (Below.mono E6 (by omega)), hB6.out⟩
        · go_simp
          go_at_call 94
          refine (sling_boxes _ lims _ (HLA.out.below (Ea)) hlim).mono ?_
          rintro e w5 ⟨vo, rfl, hbx⟩
          have Ew5 : Below wA.heap.size wA w5 := Below.trans (Ea) (Below.mono hbx.below (Below.size (Ea)))
          have HO := Lib.hid hbx.owned
          have HBX := Lib.hid hbx.below
          clear hbx
          go_wp2_with fail
          refine hK.out _ _ ?_ (fun hHeld => ?_)
          · exact Ew5
          clear hK K
          try simp only [Act.put, List.setIfInBounds_toArray, List.set_cons_zero, List.set_cons_succ]
          refine wpAnyH_ready (rs := [3]) (by kernel_rfl) (by simp) ?_
          refine AllReadyH.cons (o := _) rfl (fun K hK => ?_) AllReadyH.nil
          go_simp
          have Ec := Below.alloc Ew5 (Below.size Ew5) (.cells #[.slice A bs.length c, (.slice (some ⟨wA.heap.size, 0, none⟩) 1 1)] 65)
          have own := lit24 (u := .slice A bs.length c) (v := (.slice (some ⟨wA.heap.size, 0, none⟩) 1 1)) (w := w5) (base := wA.heap.size) (Below.size Ew5)
          have one := One.below (One.below one1 HBX.out) ((Below.refl _ _).alloc (Nat.le_refl _) (.cells #[.slice A bs.length c, (.slice (some ⟨wA.heap.size, 0, none⟩) 1 1)] 65))
          have OB := HO.out.below ((Below.refl _ _).alloc (Nat.le_refl _) (.cells #[.slice A bs.length c, (.slice (some ⟨wA.heap.size, 0, none⟩) 1 1)] 65))
          clear one1
          refine hK.out _ _ ?_ (fun hHeld => ?_)
          · exact Ec
          clear hK K
          try simp only [Act.put, List.setIfInBounds_toArray, List.set_cons_zero, List.set_cons_succ]
          refine wpAnyH_ready (rs := [6]) (by kernel_rfl) (by simp) ?_
          refine AllReadyH.cons (o := _) rfl (fun K hK => ?_) AllReadyH.nil
          obtain ⟨⟨b', cs, hcs0, hcs1⟩, hnil⟩ := OB
          have HC1 := Lib.hid hcs1
          clear hcs1
          have HN0 := Lib.hid hnil
          clear hnil
          refine step_app (k := 2) (m := lims.length) rfl _ _ rfl rfl rfl own hcs0 HN0.out (own_cells1 HC1.out) (by omega) (Below.size Ec) ?_
          intro v6 w6 ho6 hg6
          have hB6 := Lib.hid (app_box HRA.out Ec (Nat.le_refl _) own one HC1.out ho6 hg6)
          have E6 : Below wA.heap.size wA w6 := Below.grown Ec hg6 (Below.size Ec) (fun k hk => (World.ownsRow.lt own k hk).1)
          obtain ⟨g6, c6, rfl, _⟩ := World.ownsRow.form ho6 (by omega)
          clear ho6 hg6 own one hcs0
          refine hK.out _ _ ?_ (fun hHeld => ?_)
          · exact E6
          clear hK K
          try simp only [Act.put, List.setIfInBounds_toArray, List.set_cons_zero, List.set_cons_succ]
          refine wpAnyH_ready (rs := [7]) (by kernel_rfl) (by simp) ?_
          refine AllReadyH.cons (o := _) rfl (fun K hK => ?_) AllReadyH.nil
          go_simp
          refine hK.out _ _ ?_ (fun hHeld => ?_)
          · exact E6
          clear hK K
          try simp only [Act.put, List.setIfInBounds_toArray, List.set_cons_zero, List.set_cons_succ]
          refine wpAnyH_done (by kernel_rfl) ?_ _
          go_wp2_with fail
          go_meet
          case rel => exact ⟨rfl, rfl, GA.trans (Below.mono E6 (by omega)), hB6.out⟩
      · go_simp
        go_at_call 94
        refine (sling_boxes _ lims _ (HLA.out.below (Below.drew (Below.refl wA.heap.size wA))) hlim).mono ?_
        rintro e w5 ⟨vo, rfl, hbx⟩
        have Ew5 : Below wA.heap.size wA w5 := Below.trans (Below.drew (Below.refl wA.heap.size wA)) (Below.mono hbx.below (Below.size (Below.drew (Below.refl wA.heap.size wA))))
        have HO := Lib.hid hbx.owned
        have HBX := Lib.hid hbx.below
        clear hbx
        go_wp2_with fail
        refine hK.out _ _ ?_ (fun hHeld => ?_)
        · exact Ew5
        clear hK K
        try simp only [Act.put, List.setIfInBounds_toArray, List.set_cons_zero, List.set_cons_succ]
        refine wpAnyH_ready (rs := [2]) (by kernel_rfl) (by simp) ?_
        refine AllReadyH.cons (o := _) rfl (fun K hK => ?_) AllReadyH.nil
        go_simp
        have Ec := Below.alloc Ew5 (Below.size Ew5) (Obj.cells #[.int .i64 gl, .int .i64 gh] 27)
        have one1 : One (w5.alloc (Obj.cells #[.int .i64 gl, .int .i64 gh] 27)) (.slice (some ⟨w5.heap.size, 0, none⟩) 1 1) (gl, gh) := ⟨_, rfl, heap_alloc_new w5 _⟩
        have OB1 := HO.out.below ((Below.refl _ _).alloc (Nat.le_refl _) (Obj.cells #[.int .i64 gl, .int .i64 gh] 27))
        refine hK.out _ _ ?_ (fun hHeld => ?_)
        · exact Ec
        clear hK K
        try simp only [Act.put, List.setIfInBounds_toArray, List.set_cons_zero, List.set_cons_succ]
        refine wpAnyH_ready (rs := [3]) (by kernel_rfl) (by simp) ?_
        refine AllReadyH.cons (o := _) rfl (fun K hK => ?_) AllReadyH.nil
        go_simp
        have Ed := Below.alloc Ec (Below.size Ec) (.cells #[.slice A bs.length c, (.slice (some ⟨w5.heap.size, 0, none⟩) 1 1)] 65)
        have own : ((w5.alloc (Obj.cells #[.int .i64 gl, .int .i64 gh] 27)).alloc (.cells #[.slice A bs.length c, (.slice (some ⟨w5.heap.size, 0, none⟩) 1 1)] 65)).ownsRow wA.heap.size 65 1 (.slice (some ⟨w5.heap.size + 1, 0, none⟩) 2 2) 2 [.slice A bs.length c, (.slice (some ⟨w5.heap.size, 0, none⟩) 1 1)] := by have h := lit24 (u := .slice A bs.length c) (v := (.slice (some ⟨w5.heap.size, 0, none⟩) 1 1)) (w := w5.alloc (Obj.cells #[.int .i64 gl, .int .i64 gh] 27)) (base := wA.heap.size) (Below.size Ec); rwa [show (w5.alloc (Obj.cells #[.int .i64 gl, .int .i64 gh] 27)).heap.size = w5.heap.size + 1 by simp] at h
        have one := One.below one1 ((Below.refl _ _).alloc (Nat.le_refl _) (.cells #[.slice A bs.length c, (.slice (some ⟨w5.heap.size, 0, none⟩) 1 1)] 65))
        have OB := OB1.below ((Below.refl _ _).alloc (Nat.le_refl _) (.cells #[.slice A bs.length c, (.slice (some ⟨w5.heap.size, 0, none⟩) 1 1)] 65))
        clear one1 OB1
        refine hK.out _ _ ?_ (fun hHeld => ?_)
        · exact Ed
        clear hK K
        try simp only [Act.put, List.setIfInBounds_toArray, List.set_cons_zero, List.set_cons_succ]
        refine wpAnyH_ready (rs := [6]) (by kernel_rfl) (by simp) ?_
        refine AllReadyH.cons (o := _) rfl (fun K hK => ?_) AllReadyH.nil
        obtain ⟨⟨b', cs, hcs0, hcs1⟩, hnil⟩ := OB
        have HC1 := Lib.hid hcs1
        clear hcs1
        have HN0 := Lib.hid hnil
        clear hnil
        refine step_app (k := 2) (m := lims.length) rfl _ _ rfl rfl rfl own hcs0 HN0.out (own_cells1 HC1.out) (by omega) (Below.size Ed) ?_
        intro v6 w6 ho6 hg6
        have hB6 := Lib.hid (app_box HRA.out Ed (Nat.le_refl _) own one HC1.out ho6 hg6)
        have E6 : Below wA.heap.size wA w6 := Below.grown Ed hg6 (Below.size Ed) (fun k hk => (World.ownsRow.lt own k hk).1)
        obtain ⟨g6, c6, rfl, _⟩ := World.ownsRow.form ho6 (by omega)
        clear ho6 hg6 own one hcs0
        refine hK.out _ _ ?_ (fun hHeld => ?_)
        · exact E6
        clear hK K
        try simp only [Act.put, List.setIfInBounds_toArray, List.set_cons_zero, List.set_cons_succ]
        refine wpAnyH_ready (rs := [7]) (by kernel_rfl) (by simp) ?_
        refine AllReadyH.cons (o := _) rfl (fun K hK => ?_) AllReadyH.nil
        go_simp
        refine hK.out _ _ ?_ (fun hHeld => ?_)
        · exact E6
        clear hK K
        try simp only [Act.put, List.setIfInBounds_toArray, List.set_cons_zero, List.set_cons_succ]
        refine wpAnyH_done (by kernel_rfl) ?_ _
        go_wp2_with fail
        go_meet
        case rel => exact ⟨rfl, rfl, GA.trans (Below.mono E6 (by omega)), hB6.out⟩
    case rest =>
      obtain ⟨h28, rfl, hns⟩ := hcut
      subst h28
      have HNS := Lib.hid hns
      clear hns
      obtain ⟨A7, c7, e7, hc7⟩ := HNS.out.2.form
      rw [nsL_len] at e7 hc7
      subst e7
      go_wp2_with fail
      go_loopw [29] (fun s29 wr => ∃ k : Nat, s29 = .int .i64 k ∧ k ≤ 2 + lims.length ∧ noneTo (fun b => boxE b != 0) (nsL bs (gl, gh) lims) k ∧ Below (w.heap.size + 1 + 1) (nsW num damp D gl gh w) wr ∧ Below wc.heap.size wc wr) (fun s29 _ => 2 + lims.length - (intOf s29).toNat)
      case atStart => exact ⟨0, rfl, by omega, noneTo_zero _ _, HNS.out.1, Below.refl _ _⟩
      case round =>
        obtain ⟨k, rfl, hk, hno, hG, hbl⟩ := hrel
        have HNO := Lib.hid hno
        clear hno
        have ER := B2.trans (hG.mono (by omega))
        by_cases hlt : k < 2 + lims.length
        · obtain ⟨bb, o, cc, u, bx, e, hbb, hcell, hx, hRb⟩ := (HNS.out.2.below hbl).at (k := k) (by rw [nsL_len]; exact hlt)
          rw [nsL_len] at e
          cases e
          have HX := Lib.hid hx
          have HRb := Lib.hid hRb
          have hbxl : bx.length ≤ 1000000000000000000 := nsL_small hl HX.out
          clear hx hRb
          have i1 : (k : Int) < ((2 + lims.length : Nat) : Int) := by omega
          have i3 : (k : Int) < 2 + (lims.length : Int) := by omega
          have i2 : (0 : Int) ≤ (k : Int) := by omega
          have HB := fun W (hb : Below wr.heap.size wr W) => spans_Check u bx W (HRb.out.below hb) hbxl
          rcases boxE_or bx with k2 | k2
          · rw [k2] at HB
            have K2 := Lib.hid k2
            clear k2
            go_wp2_with (go_at_call 79; (with_reducible refine (HB _ (Below.refl _ _)).mono ?_); rintro e w1 ⟨rfl, hb1⟩)
            go_roundw
            case rel => exact ⟨k + 1, by go_num, by omega, noneTo_succ HNO.out HX.out (by rw [K2.out]; rfl), hG.trans (hb1.mono (by have := hG.size; simpa using this)), hbl.trans (hb1.mono hbl.size)⟩
            case measure => simp [intOf]; omega
          · rw [k2] at HB
            have K2 := Lib.hid k2
            clear k2
            go_wp2_with (go_at_call 79; (with_reducible refine (HB _ (Below.refl _ _)).mono ?_); rintro e w1 ⟨rfl, hb1⟩)
            go_ret2
            exact set_fail (by rw [HN.out, if_pos K1.out, if_neg (fun h => by have := noneTo_all (box_any.2 h) HX.out; rw [K2.out] at this; cases this)]) (by decide) (ER.trans (hb1.mono ER.size))
        · obtain rfl : k = 2 + lims.length := by omega
          have hall := noneTo_any HNO.out (by rw [nsL_len]; omega)
          obtain ⟨a1, a2, a3⟩ := box_any.1 hall
          have HE := Lib.hid (show setsE num damp D bs (gl, gh) n lims = numE bs (gl, gh) n by rw [HN.out, if_pos K1.out, if_pos ⟨a1, a2, a3⟩])
          have HA := Lib.hid (And.intro a1 a2)
          clear hall a1 a2 a3
          obtain ⟨⟨q0, q1, q2⟩, ⟨q3, q4⟩, q5⟩ := nsW_cells hG
          have q6 : w.heap.size < wr.heap.size := by omega
          by_cases hlen : bs.length = 2
          · obtain ⟨⟨l0, h0⟩, ⟨l1, h1⟩, rfl⟩ : ∃ p q, bs = [p, q] := by
              match bs, hlen with
              | [p, q], _ => exact ⟨p, q, rfl⟩
            clear hlen
            obtain ⟨b, o, cx, ebs, hcx, hb, r0, r1, r2, r3⟩ := (hR.below ER).open2
            cases ebs
            obtain ⟨b0, b1⟩ := HA.out
            have z0 := (vs_le (boxE_zero b0 (l0, h0) (by simp))).1
            have z1 := (vs_le (boxE_zero b0 (l1, h1) (by simp))).1
            have z2 := (vs_le b1).1
            have HF := Lib.hid (num_facts (n := n) z0 z1 z2)
            clear b0 b1 z0 z1 z2
            cases k1 : (wi l0 (-1000) 1000 && wi l1 (-1000) 1000)
            · have K := Lib.hid (show (wi l0 (-1000) 1000 && wi l1 (-1000) 1000) = false ∧ True from ⟨k1, trivial⟩)
              go_wp2_with fail
              refine rg_all (by kernel_rfl) (by kernel_rfl) ?_
              repeat (go_big_quiet_step ((first | (go_at_call 42; exact Calls.regrown_of (started_is _ k1)))))
              refine wpQuiet_nil ?_
              intro w1 hw1
              have hb1 := rg_below hw1
              have E1 := ER.trans (hb1.mono ER.size)
              clear hw1
              go_wp2
              go_ret2
              exact set_fail (by rw [HE.out, HF.out, K.out.1]; simp) (by decide) E1
            · cases k2 : (wi h0 (-1000) 1000 && wi h1 (-1000) 1000)
              · have K := Lib.hid (show (wi l0 (-1000) 1000 && wi l1 (-1000) 1000) = true ∧ (wi h0 (-1000) 1000 && wi h1 (-1000) 1000) = false ∧ True from ⟨k1, k2, trivial⟩)
                go_wp2_with fail
                refine rg_all (by kernel_rfl) (by kernel_rfl) ?_
                repeat (go_big_quiet_step ((first | (go_at_call 42; exact Calls.regrown_of (started_is _ k1)) | (go_at_call 42; exact Calls.regrown_of (started_is _ k2)))))
                refine wpQuiet_nil ?_
                intro w1 hw1
                have hb1 := rg_below hw1
                have E1 := ER.trans (hb1.mono ER.size)
                clear hw1
                go_wp2
                go_ret2
                exact set_fail (by rw [HE.out, HF.out, K.out.1, K.out.2.1]; simp) (by decide) E1
              · cases k3 : wi gl (-100) 100
                · have K := Lib.hid (show (wi l0 (-1000) 1000 && wi l1 (-1000) 1000) = true ∧ (wi h0 (-1000) 1000 && wi h1 (-1000) 1000) = true ∧ wi gl (-100) 100 = false ∧ True from ⟨k1, k2, k3, trivial⟩)
                  go_wp2_with fail
                  refine rg_all (by kernel_rfl) (by kernel_rfl) ?_
                  repeat (go_big_quiet_step ((first | (go_at_call 42; exact Calls.regrown_of (started_is _ k1)) | (go_at_call 42; exact Calls.regrown_of (started_is _ k2)) | (go_at_call 45; exact Calls.rg_same (slW_is _ k3)))))
                  refine wpQuiet_nil ?_
                  intro w1 hw1
                  have hb1 := rg_below hw1
                  have E1 := ER.trans (hb1.mono ER.size)
                  clear hw1
                  go_wp2
                  go_ret2
                  exact set_fail (by rw [HE.out, HF.out, K.out.1, K.out.2.1, K.out.2.2.1]; simp) (by decide) E1
                · cases k4 : wi gh (-100) 100
                  · have K := Lib.hid (show (wi l0 (-1000) 1000 && wi l1 (-1000) 1000) = true ∧ (wi h0 (-1000) 1000 && wi h1 (-1000) 1000) = true ∧ wi gl (-100) 100 = true ∧ wi gh (-100) 100 = false ∧ True from ⟨k1, k2, k3, k4, trivial⟩)
                    go_wp2_with fail
                    refine rg_all (by kernel_rfl) (by kernel_rfl) ?_
                    repeat (go_big_quiet_step ((first | (go_at_call 42; exact Calls.regrown_of (started_is _ k1)) | (go_at_call 42; exact Calls.regrown_of (started_is _ k2)) | (go_at_call 45; exact Calls.rg_same (slW_is _ k3)) | (go_at_call 45; exact Calls.rg_same (slW_is _ k4)))))
                    refine wpQuiet_nil ?_
                    intro w1 hw1
                    have hb1 := rg_below hw1
                    have E1 := ER.trans (hb1.mono ER.size)
                    clear hw1
                    go_wp2
                    go_ret2
                    exact set_fail (by rw [HE.out, HF.out, K.out.1, K.out.2.1, K.out.2.2.1, K.out.2.2.2.1]; simp) (by decide) E1
                  · cases k5 : wi n 0 16
                    · have K := Lib.hid (show (wi l0 (-1000) 1000 && wi l1 (-1000) 1000) = true ∧ (wi h0 (-1000) 1000 && wi h1 (-1000) 1000) = true ∧ wi gl (-100) 100 = true ∧ wi gh (-100) 100 = true ∧ wi n 0 16 = false ∧ True from ⟨k1, k2, k3, k4, k5, trivial⟩)
                      go_wp2_with fail
                      refine rg_all (by kernel_rfl) (by kernel_rfl) ?_
                      repeat (go_big_quiet_step ((first | (go_at_call 42; exact Calls.regrown_of (started_is _ k1)) | (go_at_call 42; exact Calls.regrown_of (started_is _ k2)) | (go_at_call 45; exact Calls.rg_same (slW_is _ k3)) | (go_at_call 45; exact Calls.rg_same (slW_is _ k4)) | (go_at_call 45; exact Calls.rg_same (slW_is _ k5)))))
                      refine wpQuiet_nil ?_
                      intro w1 hw1
                      have hb1 := rg_below hw1
                      have E1 := ER.trans (hb1.mono ER.size)
                      clear hw1
                      go_wp2
                      go_ret2
                      exact set_fail (by rw [HE.out, HF.out, K.out.1, K.out.2.1, K.out.2.2.1, K.out.2.2.2.1, K.out.2.2.2.2.1]; simp) (by decide) E1
                    · have K := Lib.hid (show (wi l0 (-1000) 1000 && wi l1 (-1000) 1000) = true ∧ (wi h0 (-1000) 1000 && wi h1 (-1000) 1000) = true ∧ wi gl (-100) 100 = true ∧ wi gh (-100) 100 = true ∧ wi n 0 16 = true ∧ True from ⟨k1, k2, k3, k4, k5, trivial⟩)
                      go_wp2_with fail
                      refine rg_all (by kernel_rfl) (by kernel_rfl) ?_
                      repeat (go_big_quiet_step ((first | (go_at_call 42; exact Calls.regrown_of (started_is _ k1)) | (go_at_call 42; exact Calls.regrown_of (started_is _ k2)) | (go_at_call 45; exact Calls.rg_same (slW_is _ k3)) | (go_at_call 45; exact Calls.rg_same (slW_is _ k4)) | (go_at_call 45; exact Calls.rg_same (slW_is _ k5)))))
                      refine wpQuiet_nil ?_
                      intro w1 hw1
                      have hb1 := rg_below hw1
                      have E1 := ER.trans (hb1.mono ER.size)
                      have G1 := hG.trans (hb1.mono (by have := hG.size; simpa using this))
                      clear hw1 q0 q1 q2 q3 q4
                      obtain ⟨⟨q0, q1, q2⟩, ⟨q3, q4⟩, q7⟩ := nsW_cells G1
                      have q8 : w.heap.size < w1.heap.size := by omega
                      go_wp2
                      go_ret2
                      exact ⟨_, by rw [HE.out, HF.out, K.out.1, K.out.2.1, K.out.2.2.1, K.out.2.2.2.1, K.out.2.2.2.2.1]; rfl, E1.alloc E1.size _, fun _ => ⟨w1.heap.size, rfl, by have := E1.size; simpa using this, heap_alloc_new w1 _⟩⟩
          · have HM := Lib.hid (show numE bs (gl, gh) n = 1 by rw [numE, numB_no hlen]; simp)
            have e1 : ((bs.length : Int) != 2) = true := by simpa using (show ¬ (bs.length : Int) = 2 by omega)
            clear hlen
            go_wp2_with fail
            refine rg_all (by kernel_rfl) (by kernel_rfl) ?_
            repeat (go_big_quiet_step (fail))
            refine wpQuiet_nil ?_
            intro w1 hw1
            have E1 := ER.trans ((rg_below hw1).mono ER.size)
            clear hw1
            go_wp2
            go_ret2
            exact set_fail (by rw [HE.out, HM.out]) (by decide) E1
  · rw [k1] at HC
    have K1 := Lib.hid k1
    clear k1
    go_enter Try.func68, Try.ntmps68
    go_wp2_with (go_at_call 41; (with_reducible refine (HC _).mono ?_); rintro e wA ⟨rfl, hbA⟩)
    go_ret2
    exact set_fail (by rw [HN.out, K1.out]; rfl) (by decide) (B2.trans (Below.mono hbA (by simp; omega)))

end Go.Proofs.Ytliddinpfgpnfaa
