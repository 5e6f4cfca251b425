/- The statement FnExactSameMachineSaid of this seat is proved: for every input that the row speaks of, the law's function returns true and leaves its arguments as they were. No conditions beyond the statement's own. -/
import Derived.Test.YtcclfndbglgbiaaRows
import Derived.Test.YtcclfndbglgbiaaFFnExactSameMachinex3
import Derived.Test.YtcclfndbglgbiaaShapeFnExactSameMachine
import Derived.Test.YtcclfndbglgbiaaPureFnExactSameMachine
import Derived.WalkKit
import Derived.ProofKit
import Derived.OpenShut
import Derived.ShutString
import Derived.ChangeOld
import Derived.Below
import Derived.SizedLaws
namespace Go.Proofs.Ytcclfndbglgbiaa.fnExactSameMachine
open Go.ChangeShapes Go.WideShapes Go.ChangeAt Go.RowKit Go.Proofs.Ytcclfndbglgbiaa.Read Go.Proofs.Ytcclfndbglgbiaa.FFnExactSameMachine Go.Proofs.YtcclfndbglgbiaaW.PrintWords
open Go.ChangeMaps (open_string shut_string)
set_option linter.unusedVariables false
theorem own : ownKnob Try.prog.godebug = none := by kernel_rfl
theorem laidOut : laidOutB Try.prog = true := by kernel_rfl
set_option maxRecDepth 100000 in
theorem lifted (os : Os) (started : os.Started) (H : Type) (enc : TypeId × Value → H) :
    ReturnsInHanded {} Try.checked os 11 .any (Rows.fnExactSameMachineSpec.pre6 enc Try.prog Try.f11 Rows.fnExactSameMachineRow.domain false) (Rows.fnExactSameMachineSpec.post enc Try.prog Try.f11 false true false false) := by
  refine returnsInHanded_of_change_sized (C := Try.checked) own started (by kernel_rfl) Try.func11
    (ChangeSpec.witness6 (enc := enc) (C := Try.checked) false ⟨#[], #[.agg #[.slice none 0 0, .slice none 0 0, .slice none 0 0], .agg #[.slice none 0 0, .slice none 0 0, .slice none 0 0]], []⟩ 8 (by kernel_rfl) (by kernel_rfl) (by kernel_rfl) (by kernel_rfl)) ?_
  intro W base args ds gs before hval0 hW hcnd hsz0 _
  have hsz : (DataW.weightsEach Try.prog (Try.f11.params.toList ++ Rows.fnExactSameMachineSpec.plain.varTypes Try.prog) (ds ++ gs)).all (· ≤ reachBytes) = true := hsz0
  have hval : ∀ (j : Nat) t v, Try.f11.params[j]? = some t → args[j]? = some v → Value.okWide Try.prog W .any base t v := hval0
  have hW' := hW
  obtain ⟨p, q, hA0, hV, rfl, hfz, hnd⟩ := hW
  have hA : DataW.TrodAll enc Try.prog W 0 (fun _ => true) true Try.f11.params.toList args.toList ds p := hA0
  rw [Try.params11] at hA hval hsz
  obtain ⟨v0, vs0, d0, ds0, p0, q0, hargs, rfl, rfl, h0, r0⟩ := trodAll_cons hA
  obtain ⟨v1, vs1, d1, ds1, p1, q1, rfl, rfl, rfl, h1, r1⟩ := trodAll_cons r0
  obtain ⟨rfl, rfl, rfl⟩ := trodAll_nil r1
  obtain rfl : args = #[v0, v1] := by cases args; simp_all
  obtain ⟨rfl, rfl⟩ := trodVars_none hV
  obtain ⟨cs0, rfl⟩ := ok_struct Try.underlying64 (hval 0 64 v0 rfl rfl)
  have k0 := h0
  have lt0 : ∀ x ∈ p0, x.block < W.heap.size := by obtain ⟨m, hm⟩ := k0; exact DataW.trod_lt m _ _ _ hm
  obtain ⟨z0, hk0, hF0⟩ := rd_agg rd64v h0
  obtain ⟨e0_0, g0_0, b0_0, m0_0, x0_0⟩ := hk0
  obtain ⟨A0_0, c0_0, eq0_0, hc0_0, hr0_0⟩ := m0_0
  obtain ⟨e0_1, g0_1, b0_1, m0_1, x0_1⟩ := x0_0
  obtain ⟨A0_1, c0_1, eq0_1, hc0_1, hr0_1⟩ := m0_1
  obtain ⟨A0_2, c0_2, eq0_2, hc0_2, hr0_2⟩ := x0_1
  obtain rfl : cs0 = #[.slice A0_0 z0.1.length c0_0, .slice A0_1 z0.2.1.length c0_1, .slice A0_2 z0.2.2.length c0_2] := by
    apply Array.toList_inj.1
    rw [b0_0, eq0_0, b0_1, eq0_1, eq0_2]; rfl
  obtain ⟨cs1, rfl⟩ := ok_struct Try.underlying64 (hval 1 64 v1 rfl rfl)
  have k1 := h1
  have lt1 : ∀ x ∈ p1, x.block < W.heap.size := by obtain ⟨m, hm⟩ := k1; exact DataW.trod_lt m _ _ _ hm
  obtain ⟨z1, hk1, hF1⟩ := rd_agg rd64v h1
  obtain ⟨e1_0, g1_0, b1_0, m1_0, x1_0⟩ := hk1
  obtain ⟨A1_0, c1_0, eq1_0, hc1_0, hr1_0⟩ := m1_0
  obtain ⟨e1_1, g1_1, b1_1, m1_1, x1_1⟩ := x1_0
  obtain ⟨A1_1, c1_1, eq1_1, hc1_1, hr1_1⟩ := m1_1
  obtain ⟨A1_2, c1_2, eq1_2, hc1_2, hr1_2⟩ := x1_1
  obtain rfl : cs1 = #[.slice A1_0 z1.1.length c1_0, .slice A1_1 z1.2.1.length c1_1, .slice A1_2 z1.2.2.length c1_2] := by
    apply Array.toList_inj.1
    rw [b1_0, eq1_0, b1_1, eq1_1, eq1_2]; rfl
  clear hA0 hval0 hsz0 hsz
  obtain ⟨k, h⟩ := Pure.FnExactSameMachine _ _ _ _ _ _ hF0 hF1
  refine (FFnExactSameMachine.laws_FnExactSameMachine.calls k A0_0 c0_0 (z0.1) A0_1 c0_1 (z0.2.1) A0_2 c0_2 (z0.2.2) A1_0 c1_0 (z1.1) A1_1 c1_1 (z1.2.1) A1_2 c1_2 (z1.2.2) true W hr0_0 hc0_0 hr0_1 hc0_1 hr0_2 hc0_2 hr1_0 hc1_0 hr1_1 hc1_1 hr1_2 hc1_2 h ⟨rfl⟩).mono fun e W' ⟨he, bel⟩ => ?_
  subst he
  exact ⟨_, rfl, _, _, _, [], _, [], hW', trodAll_mk1 (shut_bool Try.underlying4 _), (trodAll_cons_mk (Below.trod laidOut (by kernel_rfl) (of_decide_eq_true (by kernel_rfl)) k0 bel lt0) (trodAll_cons_mk (Below.trod laidOut (by kernel_rfl) (of_decide_eq_true (by kernel_rfl)) k1 bel lt1) trodAll_mk0)), rfl, bel.frame _, fun h => by cases h⟩
theorem over : Rows.fnExactSameMachineRow.holds Try.pinned (OpenSpec.ofChange Rows.fnExactSameMachineSpec) :=
  OpenClaim.holds_of_wide 11 Try.f11 rfl rfl rfl rfl rfl rfl rfl ⟨rfl, rfl, rfl, rfl, rfl⟩ rfl rfl rfl rfl rfl (by kernel_rfl) Try.func11 (by kernel_rfl)
    (of_decide_eq_true (by kernel_rfl)) (by unfold Func.isWrapper; first | (rw [if_pos (by decide +kernel)]; kernel_rfl) | (rw [if_neg (by decide +kernel)]; exact ⟨rfl, rfl⟩))
    (fun os started H enc _ => lifted os started H enc)
theorem proved : Rows.FnExactSameMachineSaid := over
#print axioms proved
end Go.Proofs.Ytcclfndbglgbiaa.fnExactSameMachine
namespace Go.Proofs.Ytcclfndbglgbiaa
/-- The row, under a short name, for the claim. -/
theorem fnExactSameMachine_holds : Rows.FnExactSameMachineSaid := fnExactSameMachine.proved
end Go.Proofs.Ytcclfndbglgbiaa
