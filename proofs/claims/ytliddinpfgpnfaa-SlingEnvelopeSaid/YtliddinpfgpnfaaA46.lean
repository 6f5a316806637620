/- Contract: whether a start and gusts are in sets (in). -/
import Derived.Test.YtliddinpfgpnfaaB6
import Derived.Test.YtliddinpfgpnfaaRC
namespace Go.Proofs.Ytliddinpfgpnfaa
open Go Go.RowKit Go.Sort
set_option linter.unusedSimpArgs false
set_option linter.unusedVariables false

def inSB (b0 b1 g : Int × Int) (n a v : Int) (gs : List Int) : Bool :=
  (decide (b0.1 ≤ a) && decide (a ≤ b0.2)) && (decide (b1.1 ≤ v) && decide (v ≤ b1.2)) && gs.all (fun x => decide (g.1 ≤ x) && decide (x ≤ g.2)) && decide ((gs.length : Int) = n)

theorem inSB_iff {b0 b1 g : Int × Int} {n a v : Int} {gs : List Int} : inSB b0 b1 g n a v gs = true ↔ InS b0 b1 g a v gs ∧ (gs.length : Int) = n := by
  simp [inSB, InS]
  intro _
  exact ⟨fun ⟨⟨p, q⟩, r⟩ => ⟨p, q, r⟩, fun ⟨p, q, r⟩ => ⟨⟨p, q⟩, r⟩⟩

abbrev iW (vb : Value) (gl gh ll lh n a v : Int) (w : World) : World := (w.alloc (setsO vb gl gh ll lh n)).alloc (.cells #[.int .i64 a, .int .i64 v] 24)

theorem iW_below (vb : Value) (gl gh ll lh n a v : Int) (w : World) : Below w.heap.size w (iW vb gl gh ll lh n a v w) := ((Below.refl _ _).alloc (Nat.le_refl _) _).alloc (by simp) _

theorem iW_cells {gl gh ll lh n a v : Int} {vb : Value} {w wr : World} (h : Below (w.heap.size + 1 + 1) (iW vb gl gh ll lh n a v w) wr) :
    (wr.cell? ⟨w.heap.size, 0, none⟩ = some vb ∧ wr.cell? ⟨w.heap.size, 1, none⟩ = some (.int .i64 gl) ∧ wr.cell? ⟨w.heap.size, 2, none⟩ = some (.int .i64 gh) ∧ wr.cell? ⟨w.heap.size, 5, none⟩ = some (.int .i64 n)) ∧
    (wr.cell? ⟨w.heap.size + 1, 0, none⟩ = some (.int .i64 a) ∧ wr.cell? ⟨w.heap.size + 1, 1, none⟩ = some (.int .i64 v)) ∧ w.heap.size < wr.heap.size ∧ w.heap.size + 1 < wr.heap.size := by
  have h0 := (h.block w.heap.size (by omega)).trans ((Below.heap_alloc _ _ _ (by simp)).trans (heap_alloc_new w _))
  have e1 : (iW vb gl gh ll lh n a v w).heap[w.heap.size + 1]? = some (.cells #[.int .i64 a, .int .i64 v] 24 (0, 0)) := by
    have := heap_alloc_new (w.alloc (setsO vb gl gh ll lh n)) (.cells #[.int .i64 a, .int .i64 v] 24)
    rwa [show (w.alloc (setsO vb gl gh ll lh n)).heap.size = w.heap.size + 1 by simp] at this
  have h1 := (h.block (w.heap.size + 1) (by omega)).trans e1
  refine ⟨?_, ?_, hp_lt h0, hp_lt h1⟩
  · simp [blk_cells h0]
  · simp [blk_cells h1]

theorem noneTo_any2 {α : Type} {p : α → Bool} {l : List α} {k : Nat} (h : noneTo p l k) (hk : l.length ≤ k) : l.any p = false := by
  rw [List.any_eq_false]
  intro x hx
  obtain ⟨j, hj, rfl⟩ := List.getElem_of_mem hx
  rw [h j _ (by omega) (List.getElem?_eq_getElem hj)]
  simp

theorem all_no {p : Int → Bool} {l : List Int} {x : Int} (hx : x ∈ l) (h : p x = false) : l.all p = false := by
  rw [List.all_eq_false]; exact ⟨x, hx, by simp [h]⟩

set_option maxRecDepth 100000 in
set_option maxHeartbeats 12800000 in
theorem law_in (vb vg : Value) (gl gh ll lh n a v l0 h0 l1 h1 : Int) (gs : List Int) (w : World) (hR : RP w vb [(l0, h0), (l1, h1)]) (hG : RI w vg gs) (hl : gs.length ≤ 1000000000000000000) :
    Calls Try.prog 32 #[.agg #[vb, .int .i64 gl, .int .i64 gh, .int .i64 ll, .int .i64 lh, .int .i64 n], .agg #[.int .i64 a, .int .i64 v], vg] w (AllBelow (.bool (inSB (l0, h0) (l1, h1) (gl, gh) n a v gs)) w) := by
  have B2 := iW_below vb gl gh ll lh n a v w
  have bx := fun (W : World) (hb : Below (w.heap.size + 1 + 1) (iW vb gl gh ll lh n a v w) W) => iW_cells hb
  have z4 : w.heap.size + 1 + 1 ≤ (iW vb gl gh ll lh n a v w).heap.size := by simp
  obtain ⟨R, hRR⟩ : ∃ R, R = inSB (l0, h0) (l1, h1) (gl, gh) n a v gs := ⟨_, rfl⟩
  rw [← hRR]
  have HI := Lib.hid (show R = ((decide (l0 ≤ a) && decide (a ≤ h0)) && (decide (l1 ≤ v) && decide (v ≤ h1)) && gs.all (fun x => decide (gl ≤ x) && decide (x ≤ gh)) && decide ((gs.length : Int) = n)) from hRR)
  clear hRR
  obtain ⟨bb, ob, cb, rfl, hcb, hbb, r0, r1, r2, r3⟩ := hR.open2
  obtain ⟨Ag, cg, rfl, hcg⟩ := hG.form
  have HRb := Lib.hid hR
  have HGb := Lib.hid hG
  clear hR hG
  go_enter Try.func32, Try.ntmps32
  go_wp2_with fail
  go_loopw [7] (fun s7 wr => ∃ d : Int, s7 = .int .i64 d ∧ (d = 0 ∨ (d = 1 ∧ (l0 ≤ a ∧ a ≤ h0)) ∨ (d = 2 ∧ (l0 ≤ a ∧ a ≤ h0) ∧ l1 ≤ v ∧ v ≤ h1)) ∧ Below (w.heap.size + 1 + 1) (iW (.slice (some ⟨bb, ob, none⟩) 2 cb) gl gh ll lh n a v w) wr) (fun s7 _ => (2 - intOf s7).toNat)
  case atStart => exact ⟨0, rfl, Or.inl rfl, Below.refl _ _⟩
  case round =>
    obtain ⟨d, rfl, hd, hbl⟩ := hrel
    have ER := B2.trans (hbl.mono (by omega))
    obtain ⟨⟨q0, q1, q2, q5⟩, ⟨q3, q4⟩, u0, u1⟩ := bx _ hbl
    clear r0 r1 r2 r3
    obtain ⟨b', o', c', e', _, hbb', r0, r1, r2, r3⟩ := (HRb.out.below ER).open2
    cases e'
    rcases hd with rfl | ⟨rfl, hin0⟩ | ⟨rfl, hin0, hin1⟩
    · cases k1 : decide (a < l0)
      · cases k2 : decide (h0 < a)
        · have HX := Lib.hid (show l0 ≤ a ∧ a ≤ h0 by simp at k1 k2; omega)
          go_wp2_with fail
          refine rg_all (by kernel_rfl) (by kernel_rfl) ?_
          repeat (go_big_quiet_step (fail))
          refine wpQuiet_nil ?_
          intro w2 hw2
          have hb2 := rg_below hw2
          clear hw2
          go_wp2_with fail
          go_roundw
          case rel => exact ⟨1, rfl, Or.inr (Or.inl ⟨rfl, HX.out⟩), hbl.trans (hb2.mono (by have := hbl.size; omega))⟩
          case measure => simp [intOf]
        · have HX := Lib.hid (show ¬ (l0 ≤ a ∧ a ≤ h0) by simp at *; omega)
          go_wp2_with fail
          refine rg_all (by kernel_rfl) (by kernel_rfl) ?_
          repeat (go_big_quiet_step (fail))
          refine wpQuiet_nil ?_
          intro w2 hw2
          have hb2 := rg_below hw2
          clear hw2
          go_wp2
          go_ret
          exact ⟨ret_bool (by rw [HI.out]; have := HX.out; simp; omega), ER.trans (hb2.mono ER.size)⟩
      · have HX := Lib.hid (show ¬ (l0 ≤ a ∧ a ≤ h0) by simp at *; omega)
        go_wp2_with fail
        refine rg_all (by kernel_rfl) (by kernel_rfl) ?_
        repeat (go_big_quiet_step (fail))
        refine wpQuiet_nil ?_
        intro w2 hw2
        have hb2 := rg_below hw2
        clear hw2
        go_wp2
        go_ret
        exact ⟨ret_bool (by rw [HI.out]; have := HX.out; simp; omega), ER.trans (hb2.mono ER.size)⟩
    · cases k1 : decide (v < l1)
      · cases k2 : decide (h1 < v)
        · have HX := Lib.hid (show l1 ≤ v ∧ v ≤ h1 by simp at k1 k2; omega)
          go_wp2_with fail
          refine rg_all (by kernel_rfl) (by kernel_rfl) ?_
          repeat (go_big_quiet_step (fail))
          refine wpQuiet_nil ?_
          intro w2 hw2
          have hb2 := rg_below hw2
          clear hw2
          go_wp2_with fail
          go_roundw
          case rel => exact ⟨2, rfl, Or.inr (Or.inr ⟨rfl, hin0, HX.out⟩), hbl.trans (hb2.mono (by have := hbl.size; omega))⟩
          case measure => simp [intOf]
        · have HX := Lib.hid (show ¬ (l1 ≤ v ∧ v ≤ h1) by simp at *; omega)
          go_wp2_with fail
          refine rg_all (by kernel_rfl) (by kernel_rfl) ?_
          repeat (go_big_quiet_step (fail))
          refine wpQuiet_nil ?_
          intro w2 hw2
          have hb2 := rg_below hw2
          clear hw2
          go_wp2
          go_ret
          exact ⟨ret_bool (by rw [HI.out]; have := HX.out; simp; omega), ER.trans (hb2.mono ER.size)⟩
      · have HX := Lib.hid (show ¬ (l1 ≤ v ∧ v ≤ h1) by simp at *; omega)
        go_wp2_with fail
        refine rg_all (by kernel_rfl) (by kernel_rfl) ?_
        repeat (go_big_quiet_step (fail))
        refine wpQuiet_nil ?_
        intro w2 hw2
        have hb2 := rg_below hw2
        clear hw2
        go_wp2
        go_ret
        exact ⟨ret_bool (by rw [HI.out]; have := HX.out; simp; omega), ER.trans (hb2.mono ER.size)⟩
    · have Hin := Lib.hid (And.intro hin0 hin1)
      clear hin0 hin1
      obtain ⟨w1, hw1⟩ : ∃ z, z = wr := ⟨_, rfl⟩
      subst hw1
      go_wp2_with fail
      go_loopw [8] (fun s8 wr => ∃ k : Nat, s8 = .int .i64 k ∧ k ≤ gs.length ∧ noneTo (fun x => !(decide (gl ≤ x) && decide (x ≤ gh))) gs k ∧ Below w1.heap.size w1 wr) (fun s8 _ => gs.length - (intOf s8).toNat)
      case atStart => exact ⟨0, rfl, by omega, noneTo_zero _ _, Below.refl _ _⟩
      case round =>
        obtain ⟨k, rfl, hk, hno, hb2⟩ := hrel
        have HNO := Lib.hid hno
        have G2 := hbl.trans (hb2.mono (by have := hbl.size; omega))
        have E2 := ER.trans (hb2.mono ER.size)
        clear hno q0 q1 q2 q3 q4 q5 u0 u1
        obtain ⟨⟨q0, q1, q2, q5⟩, ⟨q3, q4⟩, u0, u1⟩ := bx _ G2
        by_cases hlt : k < gs.length
        · obtain ⟨bg, og, cg', x, e, hbg, hx, hcell⟩ := (HGb.out.below E2).at hlt
          cases e
          have Hx := Lib.hid hx
          clear hx
          have i1 : (k : Int) < (gs.length : Int) := by omega
          have i2 : (0 : Int) ≤ (k : Int) := by omega
          cases k1 : decide (x < gl)
          · cases k2 : decide (gh < x)
            · have HX := Lib.hid (show (decide (gl ≤ x) && decide (x ≤ gh)) = true by simp at k1 k2 ⊢; omega)
              go_wp2_with fail
              refine rg_all (by kernel_rfl) (by kernel_rfl) ?_
              repeat (go_big_quiet_step (fail))
              refine wpQuiet_nil ?_
              intro w3 hw3
              have hb3 := rg_below hw3
              clear hw3
              go_wp2_with fail
              go_roundw
              case rel => exact ⟨k + 1, by go_num, by omega, noneTo_succ HNO.out Hx.out (by rw [HX.out]; rfl), hb2.trans (hb3.mono hb2.size)⟩
              case measure => simp [intOf]; omega
            · have HX := Lib.hid (show (decide (gl ≤ x) && decide (x ≤ gh)) = false by simp at *; omega)
              go_wp2_with fail
              refine rg_all (by kernel_rfl) (by kernel_rfl) ?_
              repeat (go_big_quiet_step (fail))
              refine wpQuiet_nil ?_
              intro w3 hw3
              have hb3 := rg_below hw3
              clear hw3
              go_wp2
              go_ret
              exact ⟨ret_bool (by rw [HI.out, all_no (List.mem_of_getElem? Hx.out) HX.out]; simp), E2.trans (hb3.mono E2.size)⟩
          · have HX := Lib.hid (show (decide (gl ≤ x) && decide (x ≤ gh)) = false by simp at *; omega)
            go_wp2_with fail
            refine rg_all (by kernel_rfl) (by kernel_rfl) ?_
            repeat (go_big_quiet_step (fail))
            refine wpQuiet_nil ?_
            intro w3 hw3
            have hb3 := rg_below hw3
            clear hw3
            go_wp2
            go_ret
            exact ⟨ret_bool (by rw [HI.out, all_no (List.mem_of_getElem? Hx.out) HX.out]; simp), E2.trans (hb3.mono E2.size)⟩
        · obtain rfl : k = gs.length := by omega
          have hall : gs.all (fun x => decide (gl ≤ x) && decide (x ≤ gh)) = true := by
            have := noneTo_any2 HNO.out (Nat.le_refl _)
            rw [List.any_eq_false] at this
            rw [List.all_eq_true]
            intro x hx
            simpa using this x hx
          have HF := Lib.hid (show R = decide ((gs.length : Int) = n) by
            rw [HI.out, hall]
            obtain ⟨⟨a1, a2⟩, a3, a4⟩ := Hin.out
            simp [a1, a2, a3, a4])
          clear hall
          go_wp2
          go_ret
          exact ⟨ret_bool (by rw [HF.out]; first | rfl | (simp; done) | (rw [Bool.eq_iff_iff]; simp)), E2⟩

end Go.Proofs.Ytliddinpfgpnfaa
