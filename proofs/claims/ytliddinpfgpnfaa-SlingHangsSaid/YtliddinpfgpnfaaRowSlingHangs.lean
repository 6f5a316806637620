/- The row of the law SlingHangs: for every input the call returns true, and each argument reads afterwards as it read before. -/
import Derived.Test.YtliddinpfgpnfaaRows
import Derived.Test.YtliddinpfgpnfaaB4
import Derived.Test.YtliddinpfgpnfaaA49
import Derived.WalkKit
import Derived.ProofKit
import Derived.OpenShut
import Derived.ShutString
import Derived.ChangeOld
import Derived.Below
import Derived.SizedLaws
namespace Go.Proofs.Ytliddinpfgpnfaa.slingHangs
open Go Go.ChangeShapes Go.WideShapes Go.ChangeAt Go.RowKit
set_option linter.unusedVariables false
theorem own : ownKnob Try.prog.godebug = none := by kernel_rfl
theorem laidOut : laidOutB Try.prog = true := by kernel_rfl
set_option maxRecDepth 100000 in
set_option maxHeartbeats 1600000 in
theorem lifted (os : Os) (started : os.Started) (H : Type) (enc : TypeId × Value → H) :
    ReturnsInHanded {} Try.checked os 8 .any (Rows.slingHangsSpec.pre6 enc Try.prog Try.f8 Rows.slingHangsRow.domain false) (Rows.slingHangsSpec.post enc Try.prog Try.f8 false true false false) := by
  refine returnsInHanded_of_change_sized (C := Try.checked) own started (by kernel_rfl) Try.func8
    (ChangeSpec.witness6 (enc := enc) (C := Try.checked) false ⟨#[], #[.agg #[.int .i64 0, .slice none 0 0, .slice none 0 0, .slice none 0 0, .int .i64 0], .agg #[.int .i64 0, .int .i64 0], .slice none 0 0], []⟩ 8 (by kernel_rfl) (by kernel_rfl) (by kernel_rfl) (by kernel_rfl)) ?_
  intro W base args ds gs before hval0 hW hcnd hsz0 _
  have hsz : (DataW.weightsEach Try.prog (Try.f8.params.toList ++ Rows.slingHangsSpec.plain.varTypes Try.prog) (ds ++ gs)).all (· ≤ reachBytes) = true := hsz0
  have hval : ∀ (j : Nat) t v, Try.f8.params[j]? = some t → args[j]? = some v → Value.okWide Try.prog W .any base t v := hval0
  have hW' := hW
  obtain ⟨p, q, hA0, hV, rfl, hfz, hnd⟩ := hW
  have hA : DataW.TrodAll enc Try.prog W 0 (fun _ => true) true Try.f8.params.toList args.toList ds p := hA0
  rw [Try.params8] at hA hval hsz
  obtain ⟨v0, vs0, d0, ds0, p0, q0, hargs, rfl, rfl, h0, r0⟩ := trodAll_cons hA
  obtain ⟨v1, vs1, d1, ds1, p1, q1, rfl, rfl, rfl, h1, r1⟩ := trodAll_cons r0
  obtain ⟨v2, vs2, d2, ds2, p2, q2, rfl, rfl, rfl, h2, r2⟩ := trodAll_cons r1
  obtain ⟨rfl, rfl, rfl⟩ := trodAll_nil r2
  obtain rfl : args = #[v0, v1, v2] := by cases args; simp_all
  obtain ⟨rfl, rfl⟩ := trodVars_none hV
  have lt0 : ∀ x ∈ p0, x.block < W.heap.size := by obtain ⟨m, hm⟩ := h0; exact DataW.trod_lt m _ _ _ hm
  obtain ⟨a0_x0, a0_v1, a0_l1, a0_v2, a0_l2, a0_v3, a0_l3, a0_x4, rfl, a0_w0, a0_r1, a0_s1, a0_b1, a0_r2, a0_s2, a0_b2, a0_r3, a0_s3, a0_b3, a0_w4⟩ := open42 (hval 0 42 v0 rfl rfl) (Gd.of_arg (j := 0) hsz rfl rfl h0)
  have lt1 : ∀ x ∈ p1, x.block < W.heap.size := by obtain ⟨m, hm⟩ := h1; exact DataW.trod_lt m _ _ _ hm
  obtain ⟨a1_x0, a1_x1, rfl, a1_w0, a1_w1⟩ := open27 (hval 1 27 v1 rfl rfl) (Gd.of_arg (j := 1) hsz rfl rfl h1)
  have lt2 : ∀ x ∈ p2, x.block < W.heap.size := by obtain ⟨m, hm⟩ := h2; exact DataW.trod_lt m _ _ _ hm
  obtain ⟨a2_v0, a2_l0, rfl, a2_r0, a2_s0, a2_b0⟩ := open53 (hval 2 53 v2 rfl rfl) (Gd.of_arg (j := 2) hsz rfl rfl h2)
  clear hA0 hval0 hsz0 hsz
  have hrb : reachBytes = 140737488351232 := rfl
  refine (law_Hangs a0_v1 a0_v2 a0_v3 a0_l1 a0_l2 a0_l3 a0_x0 a0_x4 a1_x0 a1_x1 v2 a2_l0 W ⟨a0_r1, a0_r2, a0_r3, by omega, by omega, by omega, fun r hr => by have := (a0_b3 r hr).1; omega⟩ a2_r0 (by omega)).mono fun e W' ⟨he, bel⟩ => ?_
  subst he
  exact ⟨_, rfl, _, _, _, [], _, [], hW', trodAll_mk1 (shut_bool Try.underlying4 _), (trodAll_cons_mk (Below.trod laidOut (by kernel_rfl) (of_decide_eq_true (by kernel_rfl)) h0 bel lt0) (trodAll_cons_mk (Below.trod laidOut (by kernel_rfl) (of_decide_eq_true (by kernel_rfl)) h1 bel lt1) (trodAll_cons_mk (Below.trod laidOut (by kernel_rfl) (of_decide_eq_true (by kernel_rfl)) h2 bel lt2) trodAll_mk0))), rfl, bel.frame _, fun h => by cases h⟩
theorem over : Rows.slingHangsRow.holds Try.pinned (OpenSpec.ofChange Rows.slingHangsSpec) :=
  OpenClaim.holds_of_wide 8 Try.f8 rfl rfl rfl rfl rfl rfl rfl ⟨rfl, rfl, rfl, rfl, rfl⟩ rfl rfl rfl rfl rfl (by kernel_rfl) Try.func8 (by kernel_rfl)
    (of_decide_eq_true (by kernel_rfl)) (by unfold Func.isWrapper; first | (rw [if_pos (by decide +kernel)]; kernel_rfl) | (rw [if_neg (by decide +kernel)]; exact ⟨rfl, rfl⟩))
    (fun os started H enc _ => lifted os started H enc)
theorem proved : Rows.SlingHangsSaid := over
#print axioms proved
end Go.Proofs.Ytliddinpfgpnfaa.slingHangs
namespace Go.Proofs.Ytliddinpfgpnfaa
/-- The row, under a short name, for the claim. -/
theorem slingHangs_holds : Rows.SlingHangsSaid := slingHangs.proved
end Go.Proofs.Ytliddinpfgpnfaa
