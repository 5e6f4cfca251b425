/- The pure statement of the law FnExactSameMachine is proved: for every input that the law speaks of, the law's function answers true. No conditions beyond the statement's own. -/
import Derived.Test.YtcclfndbglgbiaaFFnExactSameMachinex
import Derived.Test.YtcclfndbglgbiaaShapeFnExactSameMachine
namespace Go.Proofs.Ytcclfndbglgbiaa.Pure
open Go.RowKit Go.Proofs.Ytcclfndbglgbiaa.FFnExactSameMachine Go.Proofs.YtcclfndbglgbiaaW.PrintWords Go.Proofs.YtcclfndbglgbiaaW.PrintLast
set_option linter.unusedVariables false

theorem b_wrap (x : Int) (h : -9223372036854775808 ≤ x) (h' : x ≤ 9223372036854775807) : wrap64 x = x := by
  unfold wrap64; omega

theorem b_rd (l : List Int) (i : Nat) (h : i < l.length) : rd l (i : Int) = l[i] := by
  unfold rd; rw [List.getD_eq_getElem?_getD, Int.toNat_natCast, List.getElem?_eq_getElem h]; rfl

theorem b_take (l : List Int) (i : Nat) (h : i < l.length) : l.take (i + 1) = l.take i ++ [l[i]] := by
  rw [List.take_succ_eq_append_getElem h]

theorem b_set (x : List Int) (i : Nat) (v : Int) (h : i < x.length) : (x.set i v).take (i + 1) = x.take i ++ [v] := by
  have h' : i < (x.set i v).length := by rw [List.length_set]; exact h
  rw [List.take_succ_eq_append_getElem h', List.getElem_set_self, List.take_set_of_le (Nat.le_refl i)]
theorem laws_toCam_l (l : List Int) (hl : l.length ≤ 140737488355328) (d : Nat) : ∀ (k : Nat) (x : List Int) (i : Nat), l.length - i = d → d < k → x.length = l.length → x.take i = l.take i → laws_toCam.l0 k l x (i : Int) = some l := by
  induction d with
  | zero =>
    intro k x i hd hk hx ht
    obtain ⟨k, rfl⟩ : ∃ m, k = m + 1 := ⟨k - 1, by omega⟩
    simp only [laws_toCam.l0]; rw [if_neg (by omega)]
    rw [List.take_of_length_le (by omega), List.take_of_length_le (by omega)] at ht
    rw [ht]
  | succ d ih =>
    intro k x i hd hk hx ht
    obtain ⟨k, rfl⟩ : ∃ m, k = m + 1 := ⟨k - 1, by omega⟩
    simp only [laws_toCam.l0]; rw [if_pos (by omega), if_pos (by omega), if_pos (by omega)]
    rw [b_wrap _ (by omega) (by omega), b_rd l i (by omega), Int.toNat_natCast]
    rw [show ((i : Int) + 1) = ((i + 1 : Nat) : Int) by omega]
    refine ih k _ (i + 1) (by omega) (by omega) (by rw [List.length_set]; exact hx) ?_
    rw [b_set x i _ (by omega), b_take l i (by omega), ht]

theorem laws_toCam_t (l : List Int) (hl : l.length ≤ 1048576) (k : Nat) (hk : l.length < k) : laws_toCam.f k l = some l := by
  unfold laws_toCam.f
  rw [if_pos (by omega), if_pos (by omega), Int.toNat_natCast]
  exact laws_toCam_l l (by omega) l.length k _ 0 (by omega) hk (by simp) rfl
theorem laws_eqCam_l (l : List Int) (hl : l.length ≤ 1048576) (d : Nat) : ∀ (k : Nat) (i : Nat), l.length - i = d → d < k → laws_eqCam.l0 k l l (i : Int) = some true := by
  induction d with
  | zero =>
    intro k i hd hk
    obtain ⟨k, rfl⟩ : ∃ m, k = m + 1 := ⟨k - 1, by omega⟩
    simp only [laws_eqCam.l0]; rw [if_neg (by omega)]
  | succ d ih =>
    intro k i hd hk
    obtain ⟨k, rfl⟩ : ∃ m, k = m + 1 := ⟨k - 1, by omega⟩
    simp only [laws_eqCam.l0]; rw [if_pos (by omega), if_pos (by omega), if_pos (by omega), if_pos trivial]
    rw [b_wrap _ (by omega) (by omega), show ((i : Int) + 1) = ((i + 1 : Nat) : Int) by omega]
    exact ih k (i + 1) (by omega) (by omega)

theorem laws_eqCam_t (l : List Int) (hl : l.length ≤ 1048576) (k : Nat) (hk : l.length < k) : laws_eqCam.f k l l = some true := by
  unfold laws_eqCam.f
  rw [if_pos rfl]
  exact laws_eqCam_l l hl l.length k 0 (by omega) hk
theorem same_l (a b : List Int) (ha : a.length ≤ 1048576) (hab : a.length = b.length) (d : Nat) : ∀ (i : Nat), a.length - i = d →
    ∃ r, ∀ k, d < k → spec_l01Same.l0 k a b (i : Int) = some r ∧ impl_Cam_int16.l0 k a b (a.length : Int) (i : Int) = some r := by
  induction d with
  | zero =>
    intro i hd
    refine ⟨true, fun k hk => ?_⟩
    obtain ⟨k, rfl⟩ : ∃ m, k = m + 1 := ⟨k - 1, by omega⟩
    exact ⟨by simp only [spec_l01Same.l0]; rw [if_neg (by omega)], by simp only [impl_Cam_int16.l0]; rw [if_neg (by omega)]⟩
  | succ d ih =>
    intro i hd
    have p1 : (i : Int) < (a.length : Int) := by omega
    have p2 : 0 ≤ (i : Int) := by omega
    have p3 : (i : Int) < (b.length : Int) := by omega
    have w : wrap64 ((i : Int) + 1) = ((i + 1 : Nat) : Int) := by rw [b_wrap _ (by omega) (by omega)]; omega
    by_cases h : rd a (i : Int) = rd b (i : Int)
    · obtain ⟨r, hr⟩ := ih (i + 1) (by omega)
      refine ⟨r, fun k hk => ?_⟩
      obtain ⟨k, rfl⟩ : ∃ m, k = m + 1 := ⟨k - 1, by omega⟩
      simp only [spec_l01Same.l0, impl_Cam_int16.l0, if_pos p1, if_pos p2, if_pos p3, if_pos h, w]
      exact hr k (by omega)
    · refine ⟨false, fun k hk => ?_⟩
      obtain ⟨k, rfl⟩ : ∃ m, k = m + 1 := ⟨k - 1, by omega⟩
      simp only [spec_l01Same.l0, impl_Cam_int16.l0, if_pos p1, if_pos p2, if_pos p3, if_neg h]
      exact ⟨trivial, trivial⟩
theorem same_t (a b : List Int) (ha : a.length ≤ 1048576) : ∃ r, ∀ k, 1048576 < k → spec_l01Same.f k a b = some r ∧ impl_Cam_int16.f k a b = some r := by
  by_cases h : (a.length : Int) = (b.length : Int)
  · obtain ⟨r, hr⟩ := same_l a b ha (by omega) a.length 0 (by omega)
    refine ⟨r, fun k hk => ?_⟩
    unfold spec_l01Same.f impl_Cam_int16.f
    rw [if_pos h, if_pos h]; exact hr k (by omega)
  · refine ⟨false, fun k hk => ?_⟩
    unfold spec_l01Same.f impl_Cam_int16.f
    rw [if_neg h, if_neg h]; exact ⟨rfl, rfl⟩
theorem szC (l : List Int) (hl : l.length ≤ 9223372036854775807) (v : Int) (h0 : 0 ≤ v) (h1 : v ≤ 1048576) :
    laws_szCam.f l v = some (-1) ∨ (laws_szCam.f l v = some (v - (l.length : Int)) ∧ 0 ≤ v - (l.length : Int) ∧ l.length ≤ 1048576) := by
  unfold laws_szCam.f
  rw [b_wrap _ (by omega) (by omega)]
  by_cases c : v - (l.length : Int) < 0
  · exact .inl (if_pos c)
  · exact .inr ⟨if_neg c, by omega, by omega⟩
theorem szM (a b c : List Int) (ha : a.length ≤ 9223372036854775807) (hb : b.length ≤ 9223372036854775807) (hc : c.length ≤ 9223372036854775807) (v : Int) (h0 : 0 ≤ v) (h1 : v ≤ 1048576) :
    laws_szMachine.f a b c v = some (-1) ∨ ∃ u, laws_szMachine.f a b c v = some u ∧ (0 ≤ u ∧ u ≤ 1048576) ∧ a.length ≤ 1048576 ∧ b.length ≤ 1048576 ∧ c.length ≤ 1048576 := by
  have n1 : (-1 : Int) < 0 := by omega
  unfold laws_szMachine.f
  rcases szC a ha v h0 h1 with e | ⟨e, e0, e1⟩
  · left; rw [e, Option.bind_some, if_pos n1]
  rw [e, Option.bind_some, if_neg (by omega)]
  rcases szC b hb _ e0 (by omega) with f | ⟨f, f0, f1⟩
  · left; rw [f, Option.bind_some, if_pos n1]
  rw [f, Option.bind_some, if_neg (by omega)]
  rcases szC c hc _ f0 (by omega) with g | ⟨g, g0, g1⟩
  · left; rw [g, Option.bind_some, if_pos n1]
  rw [g, Option.bind_some, if_neg (by omega)]
  exact .inr ⟨_, rfl, ⟨g0, by omega⟩, e1, f1, g1⟩
theorem toM (a b c : List Int) (ha : a.length ≤ 1048576) (hb : b.length ≤ 1048576) (hc : c.length ≤ 1048576) (k : Nat) (hk : 1048576 < k) : laws_toMachine.f k a b c = some (a, b, c) := by
  unfold laws_toMachine.f
  rw [laws_toCam_t a (by omega) k (by omega), Option.bind_some, laws_toCam_t b (by omega) k (by omega), Option.bind_some, laws_toCam_t c (by omega) k (by omega), Option.bind_some]
theorem eqM (a b c : List Int) (ha : a.length ≤ 1048576) (hb : b.length ≤ 1048576) (hc : c.length ≤ 1048576) (k : Nat) (hk : 1048576 < k) : laws_eqMachine.f k a b c a b c = some true := by
  unfold laws_eqMachine.f
  rw [laws_eqCam_t a (by omega) k (by omega), Option.bind_some, if_pos rfl, laws_eqCam_t b (by omega) k (by omega), Option.bind_some, if_pos rfl, laws_eqCam_t c (by omega) k (by omega), Option.bind_some, if_pos rfl]
theorem sameM (a b c a' b' c' : List Int) (ha : a.length ≤ 1048576) (hb : b.length ≤ 1048576) (hc : c.length ≤ 1048576) :
    ∃ r, ∀ k, 1048576 < k → spec_SameMachine.f k a b c a' b' c' = some r ∧ impl_SameMachine.f k a b c a' b' c' = some r := by
  obtain ⟨r1, h1⟩ := same_t a a' ha
  obtain ⟨r2, h2⟩ := same_t b b' hb
  obtain ⟨r3, h3⟩ := same_t c c' hc
  cases r1
  · exact ⟨false, fun k hk => by unfold spec_SameMachine.f impl_SameMachine.f; rw [(h1 k hk).1, (h1 k hk).2]; exact ⟨rfl, rfl⟩⟩
  cases r2
  · exact ⟨false, fun k hk => by unfold spec_SameMachine.f impl_SameMachine.f; rw [(h1 k hk).1, (h1 k hk).2, Option.bind_some, Option.bind_some, if_pos rfl, if_pos rfl, (h2 k hk).1, (h2 k hk).2]; exact ⟨rfl, rfl⟩⟩
  exact ⟨r3, fun k hk => by unfold spec_SameMachine.f impl_SameMachine.f; rw [(h1 k hk).1, (h1 k hk).2, Option.bind_some, Option.bind_some, if_pos rfl, if_pos rfl, (h2 k hk).1, (h2 k hk).2, Option.bind_some, Option.bind_some, if_pos rfl, if_pos rfl, (h3 k hk).1, (h3 k hk).2]; exact ⟨rfl, rfl⟩⟩

theorem FnExactSameMachine (l0_0 : List Int) (l0_1 : List Int) (l0_2 : List Int) (l1_0 : List Int) (l1_1 : List Int) (l1_2 : List Int) (hF0 : F64v (l0_0, l0_1, l0_2)) (hF1 : F64v (l1_0, l1_1, l1_2)) : ∃ k, laws_FnExactSameMachine.f k l0_0 l0_1 l0_2 l1_0 l1_1 l1_2 = some true := by
  have m : maxLen ≤ 9223372036854775807 := by decide
  have a1 := hF0.1.1; have a2 := hF0.2.1.1; have a3 := hF0.2.2.1
  have b1 := hF1.1.1; have b2 := hF1.2.1.1; have b3 := hF1.2.2.1
  simp only at a1 a2 a3 b1 b2 b3
  have n1 : (-1 : Int) < 0 := by omega
  obtain ⟨k, hk⟩ : ∃ k : Nat, 1048576 < k := ⟨1048577, by omega⟩
  refine ⟨k, ?_⟩
  unfold laws_FnExactSameMachine.f
  rcases szM l0_0 l0_1 l0_2 (by omega) (by omega) (by omega) 1048576 (by omega) (by omega) with e | ⟨u, e, ⟨u0, u1⟩, c1, c2, c3⟩
  · rw [e, Option.bind_some, if_pos n1]
  rw [e, Option.bind_some, if_neg (by omega)]
  rcases szM l1_0 l1_1 l1_2 (by omega) (by omega) (by omega) u (by omega) (by omega) with f | ⟨q, f, ⟨q0, q1⟩, d1, d2, d3⟩
  · rw [f, Option.bind_some, if_pos n1]
  rw [f, Option.bind_some, if_neg (by omega)]
  obtain ⟨r, hr⟩ := sameM l0_0 l0_1 l0_2 l1_0 l1_1 l1_2 c1 c2 c3
  obtain ⟨r1, r2⟩ := hr k hk
  simp only [toM l0_0 l0_1 l0_2 c1 c2 c3 k hk, toM l1_0 l1_1 l1_2 d1 d2 d3 k hk, Option.bind_some, r1, r2, eqM l0_0 l0_1 l0_2 c1 c2 c3 k hk, eqM l1_0 l1_1 l1_2 d1 d2 d3 k hk, if_true]
  simp

end Go.Proofs.Ytcclfndbglgbiaa.Pure
