/- The pure statement of the law FnExactFlatCam is proved: for every input that the law speaks of, the law's function answers true. No conditions beyond the statement's own. -/
import Derived.Test.YtobngbphmhggkaaFFnExactFlatCamx
namespace Go.Proofs.Ytobngbphmhggkaa.Pure
open Go.RowKit Go.Proofs.Ytobngbphmhggkaa.FFnExactFlatCam Go.Proofs.YtobngbphmhggkaaW.PrintWords Go.Proofs.YtobngbphmhggkaaW.PrintLast
set_option linter.unusedVariables false

theorem b_wrap (x : Int) (h : -9223372036854775808 ≤ x) (h' : x ≤ 9223372036854775807) : wrap64 x = x := by
  unfold wrap64; omega

theorem b_rd (l : List Int) (i : Nat) (h : i < l.length) : rd l (i : Int) = l[i] := by
  unfold rd; rw [List.getD_eq_getElem?_getD, Int.toNat_natCast, List.getElem?_eq_getElem h]; rfl

theorem b_take (l : List Int) (i : Nat) (h : i < l.length) : l.take (i + 1) = l.take i ++ [l[i]] := by
  rw [List.take_succ_eq_append_getElem h]

theorem b_set (x : List Int) (i : Nat) (v : Int) (h : i < x.length) : (x.set i v).take (i + 1) = x.take i ++ [v] := by
  have h' : i < (x.set i v).length := by rw [List.length_set]; exact h
  rw [List.take_succ_eq_append_getElem h', List.getElem_set_self, List.take_set_of_le (Nat.le_refl i)]
theorem laws_eqCam_l (l : List Int) (hl : l.length ≤ 1048576) (d : Nat) : ∀ (k : Nat) (i : Nat), l.length - i = d → d < k → laws_eqCam.l0 k l l (i : Int) = some true := by
  induction d with
  | zero =>
    intro k i hd hk
    obtain ⟨k, rfl⟩ : ∃ m, k = m + 1 := ⟨k - 1, by omega⟩
    simp only [laws_eqCam.l0]; rw [if_neg (by omega)]
  | succ d ih =>
    intro k i hd hk
    obtain ⟨k, rfl⟩ : ∃ m, k = m + 1 := ⟨k - 1, by omega⟩
    simp only [laws_eqCam.l0]; rw [if_pos (by omega), if_pos (by omega), if_pos (by omega), if_pos trivial]
    rw [b_wrap _ (by omega) (by omega), show ((i : Int) + 1) = ((i + 1 : Nat) : Int) by omega]
    exact ih k (i + 1) (by omega) (by omega)

theorem laws_eqCam_t (l : List Int) (hl : l.length ≤ 1048576) (k : Nat) (hk : l.length < k) : laws_eqCam.f k l l = some true := by
  unfold laws_eqCam.f
  rw [if_pos rfl]
  exact laws_eqCam_l l hl l.length k 0 (by omega) hk
theorem laws_markCam_l (d : Nat) : ∀ (k : Nat) (x : List Int) (a : Int) (i : Nat), x.length - i = d → x.length ≤ 1048576 → d < k → 0 ≤ a → a ≤ 4611686018427387904 - d →
    ∃ y, laws_markCam.l0 k x a (i : Int) = some (a + d, y) ∧ y.length = x.length ∧ (∀ j, j < i → y.getD j 0 = x.getD j 0) ∧ (∀ j, i ≤ j → j < x.length → y.getD j 0 = IntKind.i16.wrap (a + ((j - i : Nat) : Int))) := by
  induction d with
  | zero =>
    intro k x a i hd hx hk ha hb
    obtain ⟨k, rfl⟩ : ∃ m, k = m + 1 := ⟨k - 1, by omega⟩
    refine ⟨x, ?_, rfl, fun _ _ => rfl, fun j h1 h2 => by omega⟩
    simp only [laws_markCam.l0]; rw [if_neg (by omega)]; simp
  | succ d ih =>
    intro k x a i hd hx hk ha hb
    obtain ⟨k, rfl⟩ : ∃ m, k = m + 1 := ⟨k - 1, by omega⟩
    simp only [laws_markCam.l0]; rw [if_pos (by omega), if_pos (by omega), Int.toNat_natCast]
    rw [b_wrap _ (by omega) (by omega), b_wrap _ (by omega) (by omega), show ((i : Int) + 1) = ((i + 1 : Nat) : Int) by omega]
    obtain ⟨y, hy, hl, h1, h2⟩ := ih k (x.set i (IntKind.i16.wrap a)) (a + 1) (i + 1) (by rw [List.length_set]; omega) (by rw [List.length_set]; exact hx) (by omega) (by omega) (by omega)
    refine ⟨y, ?_, by rw [hl, List.length_set], ?_, ?_⟩
    · rw [hy]; congr 2; omega
    · intro j hj
      rw [h1 j (by omega)]
      simp only [List.getD_eq_getElem?_getD]; rw [List.getElem?_set_ne (by omega)]
    · intro j hj hj'
      by_cases e : j = i
      · subst e
        rw [h1 j (by omega)]
        simp only [List.getD_eq_getElem?_getD]; rw [List.getElem?_set_self (by omega)]; simp
      · rw [h2 j (by omega) (by rw [List.length_set]; exact hj')]
        rw [show a + 1 + ((j - (i + 1) : Nat) : Int) = a + ((j - i : Nat) : Int) by omega]

theorem laws_heldCam_l (x : List Int) (hx : x.length ≤ 1048576) (d : Nat) : ∀ (k : Nat) (a : Int) (i : Nat), x.length - i = d → d < k → 0 ≤ a → a ≤ 4611686018427387904 - d → (∀ j, i ≤ j → j < x.length → x.getD j 0 = IntKind.i16.wrap (a + ((j - i : Nat) : Int))) →
    laws_heldCam.l0 k x a (i : Int) = some (a + d) := by
  induction d with
  | zero =>
    intro k a i hd hk ha hb h
    obtain ⟨k, rfl⟩ : ∃ m, k = m + 1 := ⟨k - 1, by omega⟩
    simp only [laws_heldCam.l0]; rw [if_neg (by omega)]; simp
  | succ d ih =>
    intro k a i hd hk ha hb h
    obtain ⟨k, rfl⟩ : ∃ m, k = m + 1 := ⟨k - 1, by omega⟩
    have h0 : rd x (i : Int) = IntKind.i16.wrap a := by
      have := h i (Nat.le_refl _) (by omega)
      unfold rd; rw [Int.toNat_natCast, this]; simp
    simp only [laws_heldCam.l0]; rw [if_pos (by omega), if_pos (by omega), if_pos h0]
    rw [b_wrap _ (by omega) (by omega), b_wrap _ (by omega) (by omega), show ((i : Int) + 1) = ((i + 1 : Nat) : Int) by omega]
    rw [ih k (a + 1) (i + 1) (by omega) (by omega) (by omega) (by omega) ?_]
    · congr 1; omega
    · intro j h1 h2
      rw [h j (by omega) h2]; rw [show a + 1 + ((j - (i + 1) : Nat) : Int) = a + ((j - i : Nat) : Int) by omega]

theorem laws_markCam_t (x : List Int) (hx : x.length ≤ 1048576) : ∃ y, (∀ k, x.length < k → laws_markCam.f k x 1 = some (1 + (x.length : Int), y)) ∧ (∀ k, x.length < k → laws_heldCam.f k y 1 = some (1 + (x.length : Int))) := by
  obtain ⟨y, hy, hl, _, h2⟩ := laws_markCam_l x.length (x.length + 1) x 1 0 (by omega) hx (by omega) (by omega) (by omega)
  refine ⟨y, fun k hk => at_rounds (laws_markCam.mono x 1) (show x.length + 1 ≤ k by omega) hy, fun k hk => ?_⟩
  unfold laws_heldCam.f
  rw [← hl]
  exact laws_heldCam_l y (by omega) y.length k 1 0 (by omega) (by omega) (by omega) (by omega) (fun j h0 hj => h2 j h0 (by omega))
theorem impl_inRange_t (a b c : Int) : impl_inRange.f a b c = some (decide (b ≤ a ∧ a ≤ c)) := by
  unfold impl_inRange.f
  by_cases h : b ≤ a
  · rw [if_pos h]; simp [h]
  · rw [if_neg h]; simp [h]
theorem spec_l00In_t (a b c : Int) : spec_l00In.f a b c = some (decide (b ≤ a ∧ a ≤ c)) := by
  unfold spec_l00In.f
  by_cases h : b ≤ a
  · rw [if_pos h]; simp [h]
  · rw [if_neg h]; simp [h]

theorem flat_l (n v : Int) (hv : 0 ≤ v ∧ v ≤ 10000) (hn : n ≤ 360) (d : Nat) : ∀ (k i : Nat) (x : List Int), n - i = d → d < k → x.length = i →
    ∃ q, spec_FlatCam.l0 k n v x (i : Int) = some (q, 0) ∧ impl_camOf_c75.l0 k x n (i : Int) [v] = some (q, 0) ∧ q.length = i + d := by
  induction d with
  | zero =>
    intro k i x hd hk hx
    obtain ⟨k, rfl⟩ : ∃ m, k = m + 1 := ⟨k - 1, by omega⟩
    refine ⟨x, ?_, ?_, by omega⟩
    · simp only [spec_FlatCam.l0]; rw [if_neg (by omega)]
    · simp only [impl_camOf_c75.l0]; rw [if_neg (by omega)]
  | succ d ih =>
    intro k i x hd hk hx
    obtain ⟨k, rfl⟩ : ∃ m, k = m + 1 := ⟨k - 1, by omega⟩
    have p1 : (i : Int) < n := by omega
    have p3 : x.length < 70368744177664 := by omega
    have w : wrap64 ((i : Int) + 1) = ((i + 1 : Nat) : Int) := by rw [b_wrap _ (by omega) (by omega)]; omega
    have cl : impl_FlatCam_1.f (i : Int) [v] = some v := by
      unfold impl_FlatCam_1.f; rw [if_pos (by simp)]; rfl
    obtain ⟨q, h1, h2, h3⟩ := ih k (i + 1) (x ++ [IntKind.i16.wrap v]) (by omega) (by omega) (by simp [hx])
    refine ⟨q, ?_, ?_, by omega⟩
    · simp only [spec_FlatCam.l0, if_pos p1, if_pos p3, w]; exact h1
    · simp only [impl_camOf_c75.l0, if_pos p1, if_pos p3, w, cl, Option.bind_some, impl_isLift.f, impl_inRange_t, decide_eq_true hv, if_true]; exact h2

theorem FnExactFlatCam : laws_FnExactFlatCam.Pure := by
  intro n v _ _
  have hs : ∃ (l : List Int) (c : Int), l.length ≤ 360 ∧ ∀ k, 400 ≤ k → spec_FlatCam.f k n v = some (l, c) ∧ impl_FlatCam.f k n v = some (l, c) := by
    by_cases h : 8 ≤ n ∧ n ≤ 360
    · by_cases h2 : 0 ≤ v ∧ v ≤ 10000
      · obtain ⟨q, h3, h4, h5⟩ := flat_l n v h2 h.2 n.toNat 399 0 [] (by omega) (by omega) rfl
        refine ⟨q, 0, by omega, fun k hk => ?_⟩
        obtain ⟨k, rfl⟩ : ∃ m, k = m + 1 := ⟨k - 1, by omega⟩
        have h3' := at_rounds (fun k => (spec_FlatCam.mono_l k).2 n v [] ((0 : Nat) : Int)) (show 399 ≤ k by omega) h3
        have h4' := at_rounds (fun k => impl_camOf_c75.mono_l k [] n ((0 : Nat) : Int) [v]) (show 399 ≤ k + 1 by omega) h4
        unfold spec_FlatCam.f impl_FlatCam.f impl_camOf_c75.f spec_l01Steps.f spec_l01Lift.f impl_isSteps.f impl_isLift.f
        simp only [spec_l00In_t, impl_inRange_t, Option.bind_some, decide_eq_true h, decide_eq_true h2, if_true, spec_FlatCam.j0, Bool.not_true, Bool.false_eq_true, if_false]
        exact ⟨h3', h4'⟩
      · refine ⟨[], 2, by simp, fun k hk => ?_⟩
        obtain ⟨k, rfl⟩ : ∃ m, k = m + 1 := ⟨k - 1, by omega⟩
        unfold spec_FlatCam.f impl_FlatCam.f spec_l01Steps.f spec_l01Lift.f impl_isSteps.f impl_isLift.f
        simp only [spec_l00In_t, impl_inRange_t, Option.bind_some, decide_eq_true h, decide_eq_false h2, if_true, spec_FlatCam.j0, Bool.not_false, Bool.false_eq_true, if_false]
        exact ⟨trivial, trivial⟩
    · refine ⟨[], 2, by simp, fun k hk => ?_⟩
      obtain ⟨k, rfl⟩ : ∃ m, k = m + 1 := ⟨k - 1, by omega⟩
      unfold spec_FlatCam.f impl_FlatCam.f spec_l01Steps.f impl_isSteps.f
      simp only [spec_l00In_t, impl_inRange_t, Option.bind_some, decide_eq_false h, spec_FlatCam.j0, Bool.false_eq_true, if_false, if_true]
      exact ⟨trivial, trivial⟩
  obtain ⟨l, c, hl, hq⟩ := hs
  obtain ⟨y, hm, hh⟩ := laws_markCam_t l (by omega)
  have n1 : ¬ (1 + (l.length : Int) < 0) := by omega
  refine ⟨500 + 2, ?_⟩
  have S2 := hq (500 + 2) (by omega)
  have S1 := hq (500 + 1) (by omega)
  have E2 := laws_eqCam_t l (by omega) (500 + 2) (by omega)
  have E1 := laws_eqCam_t l (by omega) (500 + 1) (by omega)
  have M1 := hm (500 + 1) (by omega)
  have H1 := hh (500 + 1) (by omega)
  have H0 := hh 500 (by omega)
  generalize hm : (500 : Nat) = m at *
  simp only [laws_FnExactFlatCam.f, S2.1, S2.2, E2, Option.bind_some, if_true, bne_self_eq_false, laws_FnExactFlatCam.j0, Bool.false_eq_true, if_false, M1, H1, if_neg n1, S1.2, E1, laws_FnExactFlatCam.j1, H0]

end Go.Proofs.Ytobngbphmhggkaa.Pure
