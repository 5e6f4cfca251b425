/- The pure statement of the law FnExactSameProgram is proved: for every input that the law speaks of, the law's function answers true. No conditions beyond the statement's own. -/
import Derived.Test.YtcclfndbglgbiaaFFnExactSameProgramx
import Derived.Test.YtcclfndbglgbiaaShapeFnExactSameProgram
namespace Go.Proofs.Ytcclfndbglgbiaa.Pure
open Go.RowKit Go.Proofs.Ytcclfndbglgbiaa.FFnExactSameProgram Go.Proofs.YtcclfndbglgbiaaW.PrintWords Go.Proofs.YtcclfndbglgbiaaW.PrintLast
set_option linter.unusedVariables false

theorem b_wrap (x : Int) (h : -9223372036854775808 ≤ x) (h' : x ≤ 9223372036854775807) : wrap64 x = x := by
  unfold wrap64; omega

theorem b_rd (l : List Int) (i : Nat) (h : i < l.length) : rd l (i : Int) = l[i] := by
  unfold rd; rw [List.getD_eq_getElem?_getD, Int.toNat_natCast, List.getElem?_eq_getElem h]; rfl

theorem b_take (l : List Int) (i : Nat) (h : i < l.length) : l.take (i + 1) = l.take i ++ [l[i]] := by
  rw [List.take_succ_eq_append_getElem h]

theorem b_set (x : List Int) (i : Nat) (v : Int) (h : i < x.length) : (x.set i v).take (i + 1) = x.take i ++ [v] := by
  have h' : i < (x.set i v).length := by rw [List.length_set]; exact h
  rw [List.take_succ_eq_append_getElem h', List.getElem_set_self, List.take_set_of_le (Nat.le_refl i)]
theorem rdM (x : List S109) (i : Nat) : rd_T109 x (i : Int) = x.getD i z109 := by unfold rd_T109; rw [Int.toNat_natCast]
theorem eqM_l (l : List S109) (hl : l.length ≤ 1048576) (d : Nat) : ∀ (k i : Nat), l.length - i = d → d < k → laws_eqMotionS.l0 k l l (i : Int) = some true := by
  induction d with
  | zero =>
    intro k i hd hk
    obtain ⟨k, rfl⟩ : ∃ m, k = m + 1 := ⟨k - 1, by omega⟩
    simp only [laws_eqMotionS.l0]; rw [if_neg (by omega)]
  | succ d ih =>
    intro k i hd hk
    obtain ⟨k, rfl⟩ : ∃ m, k = m + 1 := ⟨k - 1, by omega⟩
    simp only [laws_eqMotionS.l0, laws_eqMotion.f]; rw [if_pos (by omega), if_pos (by omega), if_pos (by omega)]
    simp only [if_true, Option.bind_some]
    rw [b_wrap _ (by omega) (by omega), show ((i : Int) + 1) = ((i + 1 : Nat) : Int) by omega]
    exact ih k (i + 1) (by omega) (by omega)
theorem eqP_t (h : Int) (l : List S109) (hl : l.length ≤ 1048576) (k : Nat) (hk : l.length < k) : laws_eqProgram.f k h l h l = some true := by
  unfold laws_eqProgram.f laws_eqMotionS.f
  rw [if_pos rfl, if_pos rfl, show (0 : Int) = ((0 : Nat) : Int) from rfl, eqM_l l hl l.length k 0 (by omega) hk]; rfl
theorem toM_l (l : List S124) (hl : l.length ≤ 1048576) (d : Nat) : ∀ (i : Nat) (x : List S109), l.length - i = d → x.length = l.length →
    ∃ y, y.length = l.length ∧ ∀ k, d < k → laws_toMotionS.l0 k l x (i : Int) = some y := by
  induction d with
  | zero =>
    intro i x hd hx
    refine ⟨x, hx, fun k hk => ?_⟩
    obtain ⟨k, rfl⟩ : ∃ m, k = m + 1 := ⟨k - 1, by omega⟩
    simp only [laws_toMotionS.l0]; rw [if_neg (by omega)]
  | succ d ih =>
    intro i x hd hx
    obtain ⟨y, hy, h⟩ := ih (i + 1) (x.set i ⟨(rd_T124 l (i : Int)).f0, (rd_T124 l (i : Int)).f1, (rd_T124 l (i : Int)).f2⟩) (by omega) (by rw [List.length_set]; exact hx)
    refine ⟨y, hy, fun k hk => ?_⟩
    obtain ⟨k, rfl⟩ : ∃ m, k = m + 1 := ⟨k - 1, by omega⟩
    have w : wrap64 ((i : Int) + 1) = ((i + 1 : Nat) : Int) := by rw [b_wrap _ (by omega) (by omega)]; omega
    simp only [laws_toMotionS.l0, laws_toMotion.f]
    rw [if_pos (by omega), if_pos (by omega), Option.bind_some, if_pos (by omega), w, Int.toNat_natCast]
    exact h k (by omega)
theorem toM_t (l : List S124) (hl : l.length ≤ 1048576) : ∃ y, y.length = l.length ∧ ∀ k, 1048576 < k → laws_toMotionS.f k l = some y := by
  obtain ⟨y, hy, h⟩ := toM_l l hl l.length 0 (List.replicate l.length z109) (by omega) (by rw [List.length_replicate])
  refine ⟨y, hy, fun k hk => ?_⟩
  unfold laws_toMotionS.f
  rw [Int.toNat_natCast, if_pos (by omega), if_pos (by omega)]
  exact h k (by omega)
theorem same_l (l m : List S109) (hl : l.length ≤ 1048576) (hlm : l.length = m.length) (d : Nat) : ∀ (i : Nat), l.length - i = d →
    ∃ r, ∀ k, d < k → spec_l02Same.l0 k l m (i : Int) = some r ∧ impl_Motion.l0 k l m (l.length : Int) (i : Int) = some r := by
  induction d with
  | zero =>
    intro i hd
    refine ⟨true, fun k hk => ?_⟩
    obtain ⟨k, rfl⟩ : ∃ m, k = m + 1 := ⟨k - 1, by omega⟩
    simp only [spec_l02Same.l0, impl_Motion.l0]
    have n1 : ¬ ((i : Int) < (l.length : Int)) := by omega
    simp only [if_neg n1]; exact ⟨trivial, trivial⟩
  | succ d ih =>
    intro i hd
    have w : wrap64 ((i : Int) + 1) = ((i + 1 : Nat) : Int) := by rw [b_wrap _ (by omega) (by omega)]; omega
    have p1 : (i : Int) < (l.length : Int) := by omega
    have p2 : 0 ≤ (i : Int) := by omega
    have p3 : (i : Int) < (m.length : Int) := by omega
    by_cases c : (!(((rd_T109 l (i : Int)).f0) == ((rd_T109 m (i : Int)).f0)) || (!(((rd_T109 l (i : Int)).f1) == ((rd_T109 m (i : Int)).f1)) || (!(((rd_T109 l (i : Int)).f2) == ((rd_T109 m (i : Int)).f2))))) = true
    · refine ⟨false, fun k hk => ?_⟩
      obtain ⟨k, rfl⟩ : ∃ m, k = m + 1 := ⟨k - 1, by omega⟩
      simp only [spec_l02Same.l0, impl_Motion.l0]
      simp only [if_pos p1, if_pos p2, if_pos p3, if_pos c]; exact ⟨trivial, trivial⟩
    · obtain ⟨r, h⟩ := ih (i + 1) (by omega)
      refine ⟨r, fun k hk => ?_⟩
      obtain ⟨k, rfl⟩ : ∃ m, k = m + 1 := ⟨k - 1, by omega⟩
      simp only [spec_l02Same.l0, impl_Motion.l0]
      simp only [if_pos p1, if_pos p2, if_pos p3, if_neg c, w]; exact h k (by omega)
theorem both (a b : Int) (l m : List S109) (hl : l.length ≤ 1048576) : ∃ r, ∀ k, 1048578 < k → spec_SameProgram.f k a l b m = some r ∧ impl_SameProgram.f k a l b m = some r := by
  unfold spec_SameProgram.f impl_SameProgram.f spec_l02Same.f impl_Motion.f
  by_cases c : a = b
  · simp only [if_pos c]
    by_cases e : (l.length : Int) = (m.length : Int)
    · obtain ⟨r, h⟩ := same_l l m hl (by omega) l.length 0 (by omega)
      refine ⟨r, fun k hk => ?_⟩
      have h := h k (by omega)
      rw [show ((0 : Nat) : Int) = 0 from rfl] at h
      simp only [if_pos e, h.1, h.2]; exact ⟨rfl, rfl⟩
    · exact ⟨false, fun k hk => by simp [if_neg e]⟩
  · exact ⟨false, fun k hk => by simp [if_neg c]⟩
theorem szP (a : Int) (l : List S124) (hl : l.length ≤ 9223372036854775807) (v : Int) (h0 : 0 ≤ v) (h1 : v ≤ 1048576) :
    laws_szProgram.f a l v = some (-1) ∨ ∃ u, laws_szProgram.f a l v = some u ∧ (0 ≤ u ∧ u ≤ 1048576) ∧ l.length ≤ 1048576 := by
  unfold laws_szProgram.f laws_szMotionS.f
  rw [b_wrap _ (by omega) (by omega)]
  by_cases c : v - (l.length : Int) < 0
  · left; rw [if_pos c]; rfl
  · right; rw [if_neg c, Option.bind_some, if_neg c]; exact ⟨_, rfl, ⟨by omega, by omega⟩, by omega⟩

theorem FnExactSameProgram (a0_0 : Int) (l0_1 : List S124) (a1_0 : Int) (l1_1 : List S124) (hF0 : F74v (a0_0, l0_1)) (hF1 : F74v (a1_0, l1_1)) : ∃ k, laws_FnExactSameProgram.f k a0_0 l0_1 a1_0 l1_1 = some true := by
  have m : maxLen ≤ 9223372036854775807 := by decide
  have a1 : l0_1.length ≤ maxLen := hF0.2.1
  have a2 : l1_1.length ≤ maxLen := hF1.2.1
  have n1 : (-1 : Int) < 0 := by omega
  obtain ⟨k, hk⟩ : ∃ k : Nat, 1048578 < k := ⟨1048579, by omega⟩
  refine ⟨k, ?_⟩
  unfold laws_FnExactSameProgram.f
  rcases szP a0_0 l0_1 (by omega) 1048576 (by omega) (by omega) with e | ⟨u, e, ⟨u0, u1⟩, c1⟩
  · rw [e, Option.bind_some, if_pos n1]
  rw [e, Option.bind_some, if_neg (by omega)]
  rcases szP a1_0 l1_1 (by omega) u (by omega) (by omega) with f | ⟨q, f, ⟨q0, q1⟩, d1⟩
  · rw [f, Option.bind_some, if_pos n1]
  rw [f, Option.bind_some, if_neg (by omega)]
  obtain ⟨y, hy, ht⟩ := toM_t l0_1 c1
  obtain ⟨z, hz, hs⟩ := toM_t l1_1 d1
  obtain ⟨r, hr⟩ := both a0_0 a1_0 y z (by omega)
  obtain ⟨r1, r2⟩ := hr k hk
  have e1 := eqP_t a0_0 y (by omega) k (by omega)
  have e2 := eqP_t a1_0 z (by omega) k (by omega)
  unfold laws_toProgram.f
  simp only [ht k (by omega), hs k (by omega), Option.bind_some, r1, r2, e1, e2, if_true]
  simp

end Go.Proofs.Ytcclfndbglgbiaa.Pure
