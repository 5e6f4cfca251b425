/- The pure statement of the law FnExactValidProgram is proved: for every input that the law speaks of, the law's function answers true. No conditions beyond the statement's own. -/
import Derived.Test.YtcclfndbglgbiaaFFnExactValidProgramx
import Derived.Test.YtcclfndbglgbiaaShapeFnExactValidProgram
namespace Go.Proofs.Ytcclfndbglgbiaa.Pure
open Go.RowKit Go.Proofs.Ytcclfndbglgbiaa.FFnExactValidProgram Go.Proofs.YtcclfndbglgbiaaW.PrintWords Go.Proofs.YtcclfndbglgbiaaW.PrintLast
set_option linter.unusedVariables false

theorem b_wrap (x : Int) (h : -9223372036854775808 ≤ x) (h' : x ≤ 9223372036854775807) : wrap64 x = x := by
  unfold wrap64; omega

theorem b_rd (l : List Int) (i : Nat) (h : i < l.length) : rd l (i : Int) = l[i] := by
  unfold rd; rw [List.getD_eq_getElem?_getD, Int.toNat_natCast, List.getElem?_eq_getElem h]; rfl

theorem b_take (l : List Int) (i : Nat) (h : i < l.length) : l.take (i + 1) = l.take i ++ [l[i]] := by
  rw [List.take_succ_eq_append_getElem h]

theorem b_set (x : List Int) (i : Nat) (v : Int) (h : i < x.length) : (x.set i v).take (i + 1) = x.take i ++ [v] := by
  have h' : i < (x.set i v).length := by rw [List.length_set]; exact h
  rw [List.take_succ_eq_append_getElem h', List.getElem_set_self, List.take_set_of_le (Nat.le_refl i)]
theorem impl_inRange_t (a b c : Int) : impl_inRange.f a b c = some (decide (b ≤ a ∧ a ≤ c)) := by
  unfold impl_inRange.f
  by_cases h : b ≤ a
  · rw [if_pos h]; simp [h]
  · rw [if_neg h]; simp [h]
theorem spec_l00In_t (a b c : Int) : spec_l00In.f a b c = some (decide (b ≤ a ∧ a ≤ c)) := by
  unfold spec_l00In.f
  by_cases h : b ≤ a
  · rw [if_pos h]; simp [h]
  · rw [if_neg h]; simp [h]
theorem rdM (x : List S109) (i : Nat) : rd_T109 x (i : Int) = x.getD i z109 := by unfold rd_T109; rw [Int.toNat_natCast]
theorem eqM_l (l : List S109) (hl : l.length ≤ 1048576) (d : Nat) : ∀ (k i : Nat), l.length - i = d → d < k → laws_eqMotionS.l0 k l l (i : Int) = some true := by
  induction d with
  | zero =>
    intro k i hd hk
    obtain ⟨k, rfl⟩ : ∃ m, k = m + 1 := ⟨k - 1, by omega⟩
    simp only [laws_eqMotionS.l0]; rw [if_neg (by omega)]
  | succ d ih =>
    intro k i hd hk
    obtain ⟨k, rfl⟩ : ∃ m, k = m + 1 := ⟨k - 1, by omega⟩
    simp only [laws_eqMotionS.l0, laws_eqMotion.f]; rw [if_pos (by omega), if_pos (by omega), if_pos (by omega)]
    simp only [if_true, Option.bind_some]
    rw [b_wrap _ (by omega) (by omega), show ((i : Int) + 1) = ((i + 1 : Nat) : Int) by omega]
    exact ih k (i + 1) (by omega) (by omega)
theorem eqP_t (h : Int) (l : List S109) (hl : l.length ≤ 1048576) (k : Nat) (hk : l.length < k) : laws_eqProgram.f k h l h l = some true := by
  unfold laws_eqProgram.f laws_eqMotionS.f
  rw [if_pos rfl, if_pos rfl, show (0 : Int) = ((0 : Nat) : Int) from rfl, eqM_l l hl l.length k 0 (by omega) hk]; rfl
theorem toM_l (l : List S124) (hl : l.length ≤ 1048576) (d : Nat) : ∀ (i : Nat) (x : List S109), l.length - i = d → x.length = l.length →
    ∃ y, y.length = l.length ∧ ∀ k, d < k → laws_toMotionS.l0 k l x (i : Int) = some y := by
  induction d with
  | zero =>
    intro i x hd hx
    refine ⟨x, hx, fun k hk => ?_⟩
    obtain ⟨k, rfl⟩ : ∃ m, k = m + 1 := ⟨k - 1, by omega⟩
    simp only [laws_toMotionS.l0]; rw [if_neg (by omega)]
  | succ d ih =>
    intro i x hd hx
    obtain ⟨y, hy, h⟩ := ih (i + 1) (x.set i ⟨(rd_T124 l (i : Int)).f0, (rd_T124 l (i : Int)).f1, (rd_T124 l (i : Int)).f2⟩) (by omega) (by rw [List.length_set]; exact hx)
    refine ⟨y, hy, fun k hk => ?_⟩
    obtain ⟨k, rfl⟩ : ∃ m, k = m + 1 := ⟨k - 1, by omega⟩
    have w : wrap64 ((i : Int) + 1) = ((i + 1 : Nat) : Int) := by rw [b_wrap _ (by omega) (by omega)]; omega
    simp only [laws_toMotionS.l0, laws_toMotion.f]
    rw [if_pos (by omega), if_pos (by omega), Option.bind_some, if_pos (by omega), w, Int.toNat_natCast]
    exact h k (by omega)
theorem toM_t (l : List S124) (hl : l.length ≤ 1048576) : ∃ y, y.length = l.length ∧ ∀ k, 1048576 < k → laws_toMotionS.f k l = some y := by
  obtain ⟨y, hy, h⟩ := toM_l l hl l.length 0 (List.replicate l.length z109) (by omega) (by rw [List.length_replicate])
  refine ⟨y, hy, fun k hk => ?_⟩
  unfold laws_toMotionS.f
  rw [Int.toNat_natCast, if_pos (by omega), if_pos (by omega)]
  exact h k (by omega)
def okM (m : S109) : Bool := decide (0 ≤ wrap64 m.f0 ∧ wrap64 m.f0 ≤ 3) && (decide (1 ≤ m.f1) && decide (0 ≤ wrap64 m.f2 ∧ wrap64 m.f2 ≤ 10000))
theorem one_t (m : S109) : impl_ValidProgram_1.f m.f0 m.f1 m.f2 = some (!okM m) := by
  unfold impl_ValidProgram_1.f impl_isLaw.f impl_isLift.f okM
  simp only [impl_inRange_t, Option.bind_some]
  by_cases h1 : 0 ≤ wrap64 m.f0 ∧ wrap64 m.f0 ≤ 3
  · by_cases h2 : m.f1 < 1
    · simp [h1, h2, show ¬ (1 ≤ m.f1) by omega]
    · simp [h1, h2, show 1 ≤ m.f1 by omega]
  · simp [h1]
def bad (l : List S109) : Nat → Nat → Bool
  | 0, _ => false
  | d + 1, i => if okM (l.getD i z109) = true then bad l d (i + 1) else true
def sm (l : List S109) : Nat → Nat → Int → Int
  | 0, _, a => a
  | d + 1, i, a => sm l d (i + 1) (wrap64 (a + wrap64 (l.getD i z109).f1))
theorem find_l (l : List S109) (hl : l.length ≤ 1048576) (d : Nat) : ∀ (i : Nat), l.length - i = d →
    ∃ q, decide (q ≥ 0) = bad l d i ∧ ∀ k, d < k → impl_Motion_c82_98.l0 k l (l.length : Int) (i : Int) = some q := by
  induction d with
  | zero =>
    intro i hd
    refine ⟨-1, by simp [bad], fun k hk => ?_⟩
    obtain ⟨k, rfl⟩ : ∃ m, k = m + 1 := ⟨k - 1, by omega⟩
    simp only [impl_Motion_c82_98.l0]; rw [if_neg (by omega)]
  | succ d ih =>
    intro i hd
    have w : wrap64 ((i : Int) + 1) = ((i + 1 : Nat) : Int) := by rw [b_wrap _ (by omega) (by omega)]; omega
    cases ho : okM (l.getD i z109) with
    | true =>
      obtain ⟨q, hq, h⟩ := ih (i + 1) (by omega)
      refine ⟨q, by simp only [bad, ho, if_true]; exact hq, fun k hk => ?_⟩
      obtain ⟨k, rfl⟩ : ∃ m, k = m + 1 := ⟨k - 1, by omega⟩
      simp only [impl_Motion_c82_98.l0, rdM, one_t, ho, w]
      rw [if_pos (by omega), if_pos (by omega), if_pos (by omega)]
      simp only [Option.bind_some, Bool.not_true]
      exact h k (by omega)
    | false =>
      refine ⟨(i : Int), by simp only [bad, ho, Bool.false_eq_true, if_false]; exact decide_eq_true (by omega), fun k hk => ?_⟩
      obtain ⟨k, rfl⟩ : ∃ m, k = m + 1 := ⟨k - 1, by omega⟩
      simp only [impl_Motion_c82_98.l0, rdM, one_t, ho, w]
      rw [if_pos (by omega), if_pos (by omega), if_pos (by omega)]
      simp
theorem steps_l (l : List S109) (hl : l.length ≤ 1048576) (d : Nat) : ∀ (i : Nat) (a : Int), l.length - i = d →
    ∀ k, d < k → impl_Program_steps.l0 k a l (l.length : Int) (i : Int) = some (sm l d i a) := by
  induction d with
  | zero =>
    intro i a hd k hk
    obtain ⟨k, rfl⟩ : ∃ m, k = m + 1 := ⟨k - 1, by omega⟩
    simp only [impl_Program_steps.l0, sm]; rw [if_neg (by omega)]
  | succ d ih =>
    intro i a hd k hk
    obtain ⟨k, rfl⟩ : ∃ m, k = m + 1 := ⟨k - 1, by omega⟩
    have w : wrap64 ((i : Int) + 1) = ((i + 1 : Nat) : Int) := by rw [b_wrap _ (by omega) (by omega)]; omega
    simp only [impl_Program_steps.l0, sm, rdM, w]
    rw [if_pos (by omega), if_pos (by omega), if_pos (by omega)]
    exact ih (i + 1) _ (by omega) k (by omega)
def fin_ (l : List S109) (s a : Int) : Bool := decide (8 ≤ s ∧ s ≤ 360) && ((l.getD (l.length - 1) z109).f2 == a)
theorem spec_l (l : List S109) (hl : l.length ≤ 1048576) (h1 : 1 ≤ l.length) (a : Int) (d : Nat) : ∀ (i : Nat) (s : Int), l.length - i = d →
    ∀ k, d < k → spec_l02Ok.l0 k (l.length : Int) s (i : Int) a l = some (if bad l d i = true then false else fin_ l (sm l d i s) a, a) := by
  induction d with
  | zero =>
    intro i s hd k hk
    obtain ⟨k, rfl⟩ : ∃ m, k = m + 1 := ⟨k - 1, by omega⟩
    simp only [spec_l02Ok.l0, sm, bad, spec_l01Steps.f, spec_l00In_t, Option.bind_some, fin_]
    rw [if_neg (by omega), show wrap64 ((l.length : Int) - 1) = ((l.length - 1 : Nat) : Int) by rw [b_wrap _ (by omega) (by omega)]; omega, rdM, if_pos (show (0 : Int) ≤ ((l.length - 1 : Nat) : Int) by omega), if_pos (show ((l.length - 1 : Nat) : Int) < (l.length : Int) by omega)]
    by_cases c : 8 ≤ s ∧ s ≤ 360 <;> simp [c]
  | succ d ih =>
    intro i s hd k hk
    obtain ⟨k, rfl⟩ : ∃ m, k = m + 1 := ⟨k - 1, by omega⟩
    have w : wrap64 ((i : Int) + 1) = ((i + 1 : Nat) : Int) := by rw [b_wrap _ (by omega) (by omega)]; omega
    have h := ih (i + 1) (wrap64 (s + wrap64 (l.getD i z109).f1)) (by omega) k (by omega)
    simp only [spec_l02Ok.l0, sm, bad, spec_l02Law.f, spec_l01Lift.f, spec_l00In_t, Option.bind_some, rdM, w]
    rw [if_pos (by omega), if_pos (by omega), if_pos (by omega), h]
    clear h ih
    obtain ⟨m, hm⟩ : ∃ m, l.getD i z109 = m := ⟨_, rfl⟩
    simp only [hm]
    unfold okM
    by_cases c1 : 0 ≤ wrap64 m.f0 ∧ wrap64 m.f0 ≤ 3
    · by_cases c2 : m.f1 < 1
      · simp [c1, c2, show ¬ (1 ≤ m.f1) by omega]
      · by_cases c3 : 0 ≤ wrap64 m.f2 ∧ wrap64 m.f2 ≤ 10000
        · simp [c1, c2, c3, show 1 ≤ m.f1 by omega]
        · simp [c1, c2, c3]
    · simp [c1]
theorem both (l : List S109) (hl : l.length ≤ 1048576) (a : Int) : ∃ r, ∀ k, 1048578 < k → spec_ValidProgram.f k a l = some r ∧ impl_ValidProgram.f k a l = some r := by
  by_cases c1 : 1 ≤ (l.length : Int) ∧ (l.length : Int) ≤ 24
  · by_cases c2 : 0 ≤ wrap64 a ∧ wrap64 a ≤ 10000
    · obtain ⟨q, hq, hf⟩ := find_l l hl l.length 0 (by omega)
      have hs := spec_l l hl (by omega) a l.length 0 0 (by omega)
      have hp := steps_l l hl l.length 0 0 (by omega)
      refine ⟨if bad l l.length 0 = true then false else fin_ l (sm l l.length 0 0) a, fun k hk => ?_⟩
      obtain ⟨k, rfl⟩ : ∃ m, k = m + 1 := ⟨k - 1, by omega⟩
      have hs := hs k (by omega)
      have hp := hp k (by omega)
      have hf := hf k (by omega)
      rw [show ((0 : Nat) : Int) = 0 from rfl] at hs hp hf
      constructor
      · unfold spec_ValidProgram.f spec_l02Ok.f
        simp only [spec_l01Lift.f, spec_l00In_t, Option.bind_some, decide_eq_true c1, decide_eq_true c2, if_true, Bool.not_true, spec_l02Ok.j0]
        rw [if_neg (by decide)]
        rw [hs]; rfl
      · unfold impl_ValidProgram.f
        simp only [impl_isLift.f, impl_inRange_t, Option.bind_some, decide_eq_true c1, decide_eq_true c2, if_true, Bool.not_true, impl_ValidProgram.j0]
        rw [if_neg (by decide)]
        unfold impl_Motion_c82_81.f impl_Motion_c82_98.f impl_Program_steps.f impl_isSteps.f
        rw [hf, hp]
        simp only [Option.bind_some, impl_inRange_t]
        rw [hq]
        generalize bad l l.length 0 = b
        cases b with
        | true => simp
        | false =>
          simp only [fin_]
          rw [show wrap64 ((l.length : Int) - 1) = ((l.length - 1 : Nat) : Int) by rw [b_wrap _ (by omega) (by omega)]; omega, rdM, if_pos (show (0 : Int) ≤ ((l.length - 1 : Nat) : Int) by omega), if_pos (show ((l.length - 1 : Nat) : Int) < (l.length : Int) by omega)]
          generalize sm l l.length 0 0 = s
          by_cases c : 8 ≤ s ∧ s ≤ 360 <;> simp [c]
    · refine ⟨false, fun k hk => ?_⟩
      obtain ⟨k, rfl⟩ : ∃ m, k = m + 1 := ⟨k - 1, by omega⟩
      constructor
      · unfold spec_ValidProgram.f spec_l02Ok.f
        simp only [spec_l01Lift.f, spec_l00In_t, Option.bind_some, decide_eq_true c1, decide_eq_false c2, if_true, Bool.not_false, spec_l02Ok.j0]
      · unfold impl_ValidProgram.f
        simp only [impl_isLift.f, impl_inRange_t, Option.bind_some, decide_eq_true c1, decide_eq_false c2, if_true, Bool.not_false, impl_ValidProgram.j0]
  · refine ⟨false, fun k hk => ?_⟩
    obtain ⟨k, rfl⟩ : ∃ m, k = m + 1 := ⟨k - 1, by omega⟩
    constructor
    · unfold spec_ValidProgram.f spec_l02Ok.f
      simp only [spec_l00In_t, Option.bind_some, decide_eq_false c1, spec_l02Ok.j0]
      rfl
    · unfold impl_ValidProgram.f
      simp only [impl_inRange_t, Option.bind_some, decide_eq_false c1, impl_ValidProgram.j0]
      rfl

theorem FnExactValidProgram (a0_0 : Int) (l0_1 : List S124) (hF0 : F74v (a0_0, l0_1)) : ∃ k, laws_FnExactValidProgram.f k a0_0 l0_1 = some true := by
  have m : maxLen ≤ 9223372036854775807 := by decide
  have a1 : l0_1.length ≤ maxLen := hF0.2.1
  have n1 : (-1 : Int) < 0 := by omega
  obtain ⟨k, hk⟩ : ∃ k : Nat, 1048578 < k := ⟨1048579, by omega⟩
  refine ⟨k, ?_⟩
  unfold laws_FnExactValidProgram.f laws_szProgram.f laws_szMotionS.f
  rw [b_wrap _ (by omega) (by omega)]
  by_cases c : (1048576 : Int) - (l0_1.length : Int) < 0
  · rw [if_pos c]; simp
  rw [if_neg c, Option.bind_some, if_neg c, Option.bind_some, if_neg c]
  obtain ⟨y, hy, ht⟩ := toM_t l0_1 (by omega)
  obtain ⟨r, hr⟩ := both y (by omega) a0_0
  obtain ⟨r1, r2⟩ := hr k hk
  have e := eqP_t a0_0 y (by omega) k (by omega)
  unfold laws_toProgram.f
  simp only [ht k (by omega), Option.bind_some, r1, r2, e, if_true]
  simp

end Go.Proofs.Ytcclfndbglgbiaa.Pure
