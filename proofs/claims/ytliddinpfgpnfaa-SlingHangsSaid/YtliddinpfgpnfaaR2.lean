/- Contracts of the specification: a table's check, points on a table. -/
import Derived.Test.YtliddinpfgpnfaaR1
import Derived.Test.YtliddinpfgpnfaaB2
namespace Go.Proofs.Ytliddinpfgpnfaa
open Go Go.RowKit Go.Sort
set_option linter.unusedSimpArgs false
set_option linter.unusedVariables false

theorem any_false {α : Type} {p : α → Bool} {zs : List α} {k : Nat} (h : noneTo p zs k) (hk : ¬ k < zs.length) : zs.any p = false := by
  rw [List.any_eq_false]
  intro x hx
  obtain ⟨j, hj, rfl⟩ := List.getElem_of_mem hx
  simp [h j _ (by omega) (List.getElem?_eq_getElem hj)]
theorem any_true {α : Type} {p : α → Bool} {zs : List α} {k : Nat} {x : α} (hx : zs[k]? = some x) (hp : p x = true) : zs.any p = true :=
  List.any_eq_true.2 ⟨x, List.mem_of_getElem? hx, hp⟩

theorem box3_cells {w wr : World} {v0 v1 v2 : Value} {T : TypeId} (hb : Below (w.heap.size + 1) (w.alloc (.cells #[v0, v1, v2] T)) wr) :
    wr.cell? ⟨w.heap.size, 0, none⟩ = some v0 ∧ wr.cell? ⟨w.heap.size, 1, none⟩ = some v1 ∧ wr.cell? ⟨w.heap.size, 2, none⟩ = some v2 ∧ w.heap.size < wr.heap.size := by
  have h : wr.heap[w.heap.size]? = some (.cells #[v0, v1, v2] T (0, 0)) := by rw [hb.block _ (by omega)]; exact heap_alloc_new _ _
  refine ⟨by rw [(blk_cells h 0).1]; rfl, by rw [(blk_cells h 1).1]; rfl, by rw [(blk_cells h 2).1]; rfl, ?_⟩
  have := hb.size
  simp at this
  omega

set_option maxRecDepth 100000 in
set_option maxHeartbeats 6400000 in
theorem ref_CheckTable (vX vY vV : Value) (X Y : List Int) (V : List (List Int)) (w : World) (hR : RT w vX vY vV X Y V) :
    Calls Try.prog 60 #[.agg #[vX, vY, vV]] w (AllBelow (.int .i64 (tableE X Y V)) w) := by
  obtain ⟨Ax, cx, rfl, hcx⟩ := hR.x.form
  obtain ⟨Ay, cy, rfl, hcy⟩ := hR.y.form
  obtain ⟨Av, cv, rfl, hcv⟩ := hR.v.form
  have hlx := hR.lx
  have hly := hR.ly
  have hlv := hR.lv
  have B1 : Below w.heap.size w (w.alloc (.cells #[.slice Ax X.length cx, .slice Ay Y.length cy, .slice Av V.length cv] 40)) := (Below.refl _ _).alloc (Nat.le_refl _) _
  have z1 : (w.alloc (.cells #[.slice Ax X.length cx, .slice Ay Y.length cy, .slice Av V.length cv] 40)).heap.size = w.heap.size + 1 := by simp
  cases h1 : axB X
  · go_enter Try.func60, Try.ntmps60
    go_wp2_with fail
    refine (ref_knots _ X _ (hR.x.below B1) hlx).mono ?_
    rintro e w1 ⟨rfl, hb⟩
    rw [h1]
    have E1 := B1.trans (hb.mono (by rw [z1]; omega))
    go_wp2
    go_ret
    exact ⟨ret_int (by simp [tableE, h1]), E1⟩
  · cases h2 : axB Y
    · go_enter Try.func60, Try.ntmps60
      go_wp2_with fail
      refine (ref_knots _ X _ (hR.x.below B1) hlx).mono ?_
      rintro e w1 ⟨rfl, hb⟩
      rw [h1]
      have E1 := B1.trans (hb.mono (by rw [z1]; omega))
      obtain ⟨q0, q1, q2, q3⟩ := box3_cells (by rw [z1] at hb; exact hb)
      go_wp2_with fail
      refine (ref_knots _ Y _ (hR.y.below E1) hly).mono ?_
      rintro e w2 ⟨rfl, hb2⟩
      rw [h2]
      have E2 := E1.trans (hb2.mono E1.size)
      go_wp2
      go_ret
      exact ⟨ret_int (by simp [tableE, h2]), E2⟩
    · by_cases h3 : V.length = X.length
      · have H3 := Lib.hid h3
        have h4 : (((V.length : Nat) : Int) != (X.length : Int)) = false := by simp [h3]
        clear h3
        go_enter Try.func60, Try.ntmps60
        go_wp2_with fail
        refine (ref_knots _ X _ (hR.x.below B1) hlx).mono ?_
        rintro e w1 ⟨rfl, hb⟩
        rw [h1]
        have E1 := B1.trans (hb.mono (by rw [z1]; omega))
        rw [z1] at hb
        obtain ⟨q0, q1, q2, q3⟩ := box3_cells hb
        go_wp2_with fail
        refine (ref_knots _ Y _ (hR.y.below E1) hly).mono ?_
        rintro e w2 ⟨rfl, hb2⟩
        rw [h2]
        have E2 := E1.trans (hb2.mono E1.size)
        have G2 := hb.trans (hb2.mono q3)
        clear q0 q1 q2 q3 hb hb2
        obtain ⟨q0, q1, q2, q3⟩ := box3_cells G2
        go_wp2_with fail
        have HBX := Lib.hid (fun (wr : World) (h : Below (w.heap.size + 1) (w.alloc (.cells #[.slice Ax X.length cx, .slice Ay Y.length cy, .slice Av V.length cv] 40)) wr) => box3_cells h)
        generalize (w.alloc (.cells #[.slice Ax X.length cx, .slice Ay Y.length cy, .slice Av V.length cv] 40)) = W1 at *
        go_loopw [3] (fun s3 wr => ∃ i : Nat, s3 = .int .i64 i ∧ i ≤ V.length ∧ noneTo (badRow Y.length) V i ∧ Below (w.heap.size + 1) W1 wr) (fun s3 _ => V.length - (intOf s3).toNat)
        case atStart => exact ⟨0, rfl, by omega, noneTo_zero _ _, G2⟩
        case round =>
          obtain ⟨i, rfl, hi, hno, hbl⟩ := hrel
          clear q0 q1 q2 q3 G2 E1 E2
          obtain ⟨q0, q1, q2, q3⟩ := HBX.out _ hbl
          have E3 := B1.trans (hbl.mono (by omega))
          by_cases hlt : i < V.length
          · obtain ⟨b, o, c', u, row, e, hb, hx, hcell, hRI⟩ := (hR.v.below E3).at hlt
            cases e
            obtain ⟨Ar, cr, rfl, hcr⟩ := hRI.form
            have hlr := hR.lr row (List.mem_of_getElem? hx)
            have Hx := Lib.hid hx
            clear hx
            have i0 : (0 : Int) ≤ (i : Int) := by omega
            have i1 : (i : Int) < (V.length : Int) := by omega
            by_cases hlen : row.length = Y.length
            · have hl2 : ((row.length : Int) != (Y.length : Int)) = false := by simp [hlen]
              have Hlen := Lib.hid hlen
              clear hlen
              go_wp2_with fail
              refine rg_all (by kernel_rfl) (by kernel_rfl) ?_
              repeat (go_big_quiet_step (fail))
              refine wpQuiet_nil ?_
              intro w3 hw3
              have G3 := hbl.trans ((rg_below hw3).mono q3)
              clear hw3 q0 q1 q2 q3 hcell
              obtain ⟨wo, rfl⟩ : ∃ wo : World, wo = wr := ⟨_, rfl⟩
              clear hbl
              obtain ⟨q0, q1, q2, q3⟩ := HBX.out _ G3
              go_wp2_with fail
              go_loopw [4] (fun s4 wr => ∃ k : Nat, s4 = .int .i64 k ∧ k ≤ row.length ∧ noneTo badN row k ∧ Below (w.heap.size + 1) W1 wr) (fun s4 _ => row.length - (intOf s4).toNat)
              case atStart => exact ⟨0, rfl, by omega, noneTo_zero _ _, G3⟩
              case round =>
                obtain ⟨k, rfl, hk, hnk, hbl⟩ := hrel
                clear q0 q1 q2 q3 G3
                obtain ⟨q0, q1, q2, q3⟩ := HBX.out _ hbl
                have E4 := B1.trans (hbl.mono (by omega))
                obtain ⟨b4, o4, c4, u4, row4, e4, hb4, hx4, hcell4, hRI4⟩ := (hR.v.below E4).at hlt
                rw [Hx.out] at hx4
                cases hx4
                cases e4
                obtain ⟨Ar4, cr4, rfl, hcr4⟩ := hRI4.form
                by_cases hkt : k < row.length
                · obtain ⟨b5, o5, c5, x, e5, hb5, hx5, hcell5⟩ := hRI4.at hkt
                  cases e5
                  have Hx5 := Lib.hid hx5
                  clear hx5
                  cases hp : wi x (-1000000) 1000000
                  · go_wp2_with (go_at_call 81; refine (ref_From _ _ _ _).mono ?_; rintro e w' ⟨rfl, rfl⟩)
                    go_ret
                    have hbad : anyBadRow Y.length V = true := any_true Hx.out (by rw [badRow, anyBadN, any_true Hx5.out (by rw [badN, hp]; rfl)]; simp)
                    exact ⟨ret_int (by simp [tableE, hbad]), E4⟩
                  · go_wp2_with (go_at_call 81; refine (ref_From _ _ _ _).mono ?_; rintro e w' ⟨rfl, rfl⟩)
                    go_roundw
                    case rel => exact ⟨k + 1, by go_num, by omega, noneTo_succ hnk Hx5.out (by rw [badN, hp]; rfl), hbl⟩
                    case measure => simp [intOf]; omega
                · go_wp2_with fail
                  go_roundw
                  case rel => exact ⟨i + 1, by go_num, by omega, noneTo_succ hno Hx.out (by rw [badRow, anyBadN, any_false hnk hkt]; simp [Hlen.out]), hbl⟩
                  case measure => simp [intOf]; omega
            · have hl2 : ((row.length : Int) != (Y.length : Int)) = true := by simp; omega
              have Hlen := Lib.hid hlen
              clear hlen
              go_wp2_with fail
              refine rg_all (by kernel_rfl) (by kernel_rfl) ?_
              repeat (go_big_quiet_step (fail))
              refine wpQuiet_nil ?_
              intro w3 hw3
              have E4 := E3.trans ((rg_below hw3).mono E3.size)
              clear hw3
              go_wp2_with fail
              go_ret
              have hbad : anyBadRow Y.length V = true := any_true Hx.out (by rw [badRow]; simp [Hlen.out])
              exact ⟨ret_int (by simp [tableE, hbad]), E4⟩
          · go_wp2_with fail
            go_ret
            exact ⟨ret_int (by rw [tableE, h1, h2, anyBadRow, any_false hno hlt]; simp [H3.out]), E3⟩
      · have H3 := Lib.hid h3
        have h4 : (((V.length : Nat) : Int) != (X.length : Int)) = true := by simp; omega
        clear h3
        go_enter Try.func60, Try.ntmps60
        go_wp2_with fail
        refine (ref_knots _ X _ (hR.x.below B1) hlx).mono ?_
        rintro e w1 ⟨rfl, hb⟩
        rw [h1]
        have E1 := B1.trans (hb.mono (by rw [z1]; omega))
        rw [z1] at hb
        obtain ⟨q0, q1, q2, q3⟩ := box3_cells hb
        go_wp2_with fail
        refine (ref_knots _ Y _ (hR.y.below E1) hly).mono ?_
        rintro e w2 ⟨rfl, hb2⟩
        rw [h2]
        have E2 := E1.trans (hb2.mono E1.size)
        have G2 := hb.trans (hb2.mono q3)
        clear q0 q1 q2 q3 hb hb2
        obtain ⟨q0, q1, q2, q3⟩ := box3_cells G2
        go_wp2_with fail
        go_ret
        exact ⟨ret_int (by simp [tableE, H3.out]), E2⟩

end Go.Proofs.Ytliddinpfgpnfaa
