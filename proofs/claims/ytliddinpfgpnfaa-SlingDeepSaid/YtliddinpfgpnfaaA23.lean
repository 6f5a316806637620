/- Contract: At, the whole numbers round the value of a table at a point. -/
import Derived.Test.YtliddinpfgpnfaaL7
namespace Go.Proofs.Ytliddinpfgpnfaa
open Go Go.RowKit Go.Sort
set_option linter.unusedSimpArgs false
set_option linter.unusedVariables false

/-- What At answers. -/
def atR (X Y : List Int) (V : List (List Int)) (x y : Int) : Int × Int × Int :=
  if tableE X Y V ≠ 0 then (0, 0, 11) else if liesB X x x && liesB Y y y then (flo X Y V x y, upV (atN X Y V x y) (atD X Y x y), 0) else (0, 0, 1)

abbrev atW (vX vY vV : Value) (w : World) : World := (w.alloc (.cells #[vX, vY, vV] 40)).alloc (.cells #[.int .i64 0, .int .i64 0] 27)
theorem atW_below (vX vY vV : Value) (w : World) : Below w.heap.size w (atW vX vY vV w) := ((Below.refl _ _).alloc (Nat.le_refl _) _).alloc (by simp) _
theorem box32 {w wr : World} {vX vY vV : Value} (hb : Below (w.heap.size + 1 + 1) (atW vX vY vV w) wr) :
    (wr.cell? ⟨w.heap.size, 0, none⟩ = some vX ∧ wr.cell? ⟨w.heap.size, 1, none⟩ = some vY ∧ wr.cell? ⟨w.heap.size, 2, none⟩ = some vV) ∧
    (wr.cell? ⟨w.heap.size + 1, 0, none⟩ = some (.int .i64 0) ∧ wr.cell? ⟨w.heap.size + 1, 1, none⟩ = some (.int .i64 0)) ∧ (wr.frozen? ⟨w.heap.size + 1, 0, none⟩ = false ∧ wr.frozen? ⟨w.heap.size + 1, 1, none⟩ = false) ∧ w.heap.size + 1 < wr.heap.size := by
  have hz : (atW vX vY vV w).heap.size = w.heap.size + 1 + 1 := by simp
  have h0 : wr.heap[w.heap.size]? = some (.cells #[vX, vY, vV] 40 (0, 0)) := by rw [hb.block _ (by omega)]; exact heap_alloc_old (heap_alloc_new _ _)
  have h1 : wr.heap[w.heap.size + 1]? = some (.cells #[.int .i64 0, .int .i64 0] 27 (0, 0)) := by
    rw [hb.block _ (by omega)]
    rw [show w.heap.size + 1 = (w.alloc (.cells #[vX, vY, vV] 40)).heap.size by simp]
    exact heap_alloc_new _ _
  exact ⟨⟨by rw [(blk_cells h0 0).1]; rfl, by rw [(blk_cells h0 1).1]; rfl, by rw [(blk_cells h0 2).1]; rfl⟩, ⟨by rw [(blk_cells h1 0).1]; rfl, by rw [(blk_cells h1 1).1]; rfl⟩, ⟨(blk_cells h1 0).2, (blk_cells h1 1).2⟩, by have := hb.size; omega⟩

set_option maxRecDepth 100000 in
set_option maxHeartbeats 6400000 in
theorem spans_At (vX vY vV : Value) (X Y : List Int) (V : List (List Int)) (x y : Int) (w : World) (hR : RT w vX vY vV X Y V) :
    Calls Try.prog 22 #[.agg #[vX, vY, vV], .int .i64 x, .int .i64 y] w
      (AllBelow (.tuple #[.agg #[.int .i64 (atR X Y V x y).1, .int .i64 (atR X Y V x y).2.1], .int .i64 (atR X Y V x y).2.2]) w) := by
  have B2 := atW_below vX vY vV w
  have z2 : (atW vX vY vV w).heap.size = w.heap.size + 1 + 1 := by simp
  by_cases h1 : tableE X Y V = 0
  · obtain ⟨aX, aY, -, -⟩ := tableE_zero h1
    have hlX := (axB_len aX).1
    have hlY := (axB_len aY).1
    have H1 := Lib.hid h1
    have HX := Lib.hid aX
    have HY := Lib.hid aY
    clear h1 aX aY
    cases h2 : liesB X x x
    · go_enter Try.func22, Try.ntmps22
      go_wp2_with fail
      refine (spans_CheckTable vX vY vV X Y V _ (hR.below B2)).mono ?_
      rintro e w1 ⟨rfl, hb⟩
      rw [H1.out]
      have E1 := B2.trans (hb.mono (by rw [z2]; omega))
      rw [z2] at hb
      obtain ⟨⟨q0, q1, q2⟩, ⟨q3, q4⟩, ⟨q5, q6⟩, q7⟩ := box32 hb
      go_wp2_with fail
      refine (spans_lies vX X x x _ (hR.x.below E1) (by omega) hR.lx).mono ?_
      rintro e w2 ⟨rfl, hb2⟩
      rw [h2]
      have E2 := E1.trans (hb2.mono E1.size)
      have G2 := hb.trans (hb2.mono q7)
      clear q0 q1 q2 q3 q4 q5 q6 q7 hb hb2
      obtain ⟨⟨q0, q1, q2⟩, ⟨q3, q4⟩, ⟨q5, q6⟩, q7⟩ := box32 G2
      go_wp2_with fail
      refine bodyPost_ret (v := .tuple #[.agg #[.int .i64 0, .int .i64 0], .int .i64 1]) (by simp [results, Try.results22, go_sem, q3, q4, q7]) rfl ⟨?_, ?_⟩
      · rw [atR, if_neg (by rw [H1.out]; simp), h2]; rfl
      · exact (E2.setCell (by dsimp only; omega) _).setCell (by dsimp only; omega) _
    · cases h3 : liesB Y y y
      · go_enter Try.func22, Try.ntmps22
        go_wp2_with fail
        refine (spans_CheckTable vX vY vV X Y V _ (hR.below B2)).mono ?_
        rintro e w1 ⟨rfl, hb⟩
        rw [H1.out]
        have E1 := B2.trans (hb.mono (by rw [z2]; omega))
        rw [z2] at hb
        obtain ⟨⟨q0, q1, q2⟩, ⟨q3, q4⟩, ⟨q5, q6⟩, q7⟩ := box32 hb
        go_wp2_with fail
        refine (spans_lies vX X x x _ (hR.x.below E1) (by omega) hR.lx).mono ?_
        rintro e w2 ⟨rfl, hb2⟩
        rw [h2]
        have E2 := E1.trans (hb2.mono E1.size)
        have G2 := hb.trans (hb2.mono q7)
        clear q0 q1 q2 q3 q4 q5 q6 q7 hb hb2
        obtain ⟨⟨q0, q1, q2⟩, ⟨q3, q4⟩, ⟨q5, q6⟩, q7⟩ := box32 G2
        go_wp2_with fail
        refine (spans_lies vY Y y y _ (hR.y.below E2) (by omega) hR.ly).mono ?_
        rintro e w3 ⟨rfl, hb3⟩
        rw [h3]
        have E3 := E2.trans (hb3.mono E2.size)
        have G3 := G2.trans (hb3.mono q7)
        clear q0 q1 q2 q3 q4 q5 q6 q7 G2 hb3
        obtain ⟨⟨q0, q1, q2⟩, ⟨q3, q4⟩, ⟨q5, q6⟩, q7⟩ := box32 G3
        go_wp2_with fail
        refine bodyPost_ret (v := .tuple #[.agg #[.int .i64 0, .int .i64 0], .int .i64 1]) (by simp [results, Try.results22, go_sem, q3, q4, q7]) rfl ⟨?_, ?_⟩
        · rw [atR, if_neg (by rw [H1.out]; simp), h2, h3]; rfl
        · exact (E3.setCell (by dsimp only; omega) _).setCell (by dsimp only; omega) _
      · have hx := h2
        have hy := h3
        simp only [liesB, Bool.and_eq_true, decide_eq_true_eq] at hx hy
        obtain ⟨p1, p2, p3, p4⟩ := at_bounds H1.out (p := (x, y)) ⟨hx.1, hx.2, hy.1, hy.2⟩
        have HA := Lib.hid (fun (W : World) (hb : Below w.heap.size w W) => spans_at vX vY vV X Y V x y W (hR.below hb) H1.out hx.1 hx.2 hy.1 hy.2)
        have HF := Lib.hid (show flo X Y V x y = atN X Y V x y / atD X Y x y from rfl)
        clear hx hy
        dsimp only at p1 p2 p3 p4
        generalize hn : atN X Y V x y = n at *
        generalize hd : atD X Y x y = d at *
        have Hn := Lib.hid hn
        have Hd := Lib.hid hd
        clear hn hd
        go_enter Try.func22, Try.ntmps22
        go_wp2_with fail
        refine (spans_CheckTable vX vY vV X Y V _ (hR.below B2)).mono ?_
        rintro e w1 ⟨rfl, hb⟩
        rw [H1.out]
        have E1 := B2.trans (hb.mono (by rw [z2]; omega))
        rw [z2] at hb
        obtain ⟨⟨q0, q1, q2⟩, ⟨q3, q4⟩, ⟨q5, q6⟩, q7⟩ := box32 hb
        go_wp2_with fail
        refine (spans_lies vX X x x _ (hR.x.below E1) (by omega) hR.lx).mono ?_
        rintro e w2 ⟨rfl, hb2⟩
        rw [h2]
        have E2 := E1.trans (hb2.mono E1.size)
        have G2 := hb.trans (hb2.mono q7)
        clear q0 q1 q2 q3 q4 q5 q6 q7 hb hb2
        obtain ⟨⟨q0, q1, q2⟩, ⟨q3, q4⟩, ⟨q5, q6⟩, q7⟩ := box32 G2
        go_wp2_with fail
        refine (spans_lies vY Y y y _ (hR.y.below E2) (by omega) hR.ly).mono ?_
        rintro e w3 ⟨rfl, hb3⟩
        rw [h3]
        have E3 := E2.trans (hb3.mono E2.size)
        have G3 := G2.trans (hb3.mono q7)
        clear q0 q1 q2 q3 q4 q5 q6 q7 G2 hb3
        obtain ⟨⟨q0, q1, q2⟩, ⟨q3, q4⟩, ⟨q5, q6⟩, q7⟩ := box32 G3
        go_wp2_with fail
        refine (HA.out _ E3).mono ?_
        rintro e w4 ⟨rfl, hb4⟩
        have E4 := E3.trans (hb4.mono E3.size)
        have G4 := G3.trans (hb4.mono q7)
        clear q0 q1 q2 q3 q4 q5 q6 q7 G3 hb4
        go_wp2_with fail
        refine rg_tail 11 (by kernel_rfl) (by kernel_rfl) ?_
        simp only [List.take_succ_cons, List.take_zero, List.drop_succ_cons, List.drop_zero]
        repeat (go_big_quiet_step ((first | (go_at_call 58; exact Calls.rg_same (spans_floor _ _ _ (by omega) (by omega) (by omega) (by omega))) | (go_at_call 59; exact Calls.rg_same (spans_ceil _ _ _ (by omega) (by omega) (by omega) (by omega))))))
        refine wpQuiet_nil ?_
        intro w5 hw5
        have z4 := G4.size
        rw [z2] at z4
        have E5 := (E4.alloc E4.size _).trans ((rg_below hw5).mono (by simp; have := E4.size; omega))
        have G5 := (G4.alloc z4 _).trans ((rg_below hw5).mono (by simp; omega))
        clear hw5 G4
        obtain ⟨⟨q0, q1, q2⟩, ⟨q3, q4⟩, ⟨q5, q6⟩, q7⟩ := box32 G5
        go_wp2_with fail
        refine bodyPost_ret (v := .tuple #[.agg #[.int .i64 (n / d), .int .i64 (-(-n / d))], .int .i64 0]) (by simp [results, Try.results22, go_sem, q3, q4, q7]) rfl ⟨?_, ?_⟩
        · rw [atR, if_neg (by rw [H1.out]; simp), h2, h3, HF.out, Hn.out, Hd.out]; rfl
        · exact (E5.setCell (by dsimp only; omega) _).setCell (by dsimp only; omega) _
  · have h1b : (tableE X Y V != 0) = true := by simpa using h1
    have e1 : tableE X Y V = 11 := (tableE_or X Y V).resolve_left h1
    have H1 := Lib.hid h1
    have He1 := Lib.hid e1
    clear h1 e1
    go_enter Try.func22, Try.ntmps22
    go_wp2_with fail
    refine (spans_CheckTable vX vY vV X Y V _ (hR.below B2)).mono ?_
    rintro e w1 ⟨rfl, hb⟩
    have E1 := B2.trans (hb.mono (by rw [z2]; omega))
    rw [z2] at hb
    obtain ⟨⟨q0, q1, q2⟩, ⟨q3, q4⟩, ⟨q5, q6⟩, q7⟩ := box32 hb
    go_wp2_with fail
    refine bodyPost_ret (v := .tuple #[.agg #[.int .i64 0, .int .i64 0], .int .i64 (tableE X Y V)]) (by simp [results, Try.results22, go_sem, q3, q4, q7]) rfl ⟨?_, ?_⟩
    · rw [atR, if_pos H1.out, He1.out]
    · exact (E1.setCell (by dsimp only; omega) _).setCell (by dsimp only; omega) _

end Go.Proofs.Ytliddinpfgpnfaa
