/- The pure statement of the law FnExactFlatCutter is proved: for every input that the law speaks of, the law's function answers true. No conditions beyond the statement's own. -/
import Derived.Test.YtkjjmelhnbjoeaaPFnExactFlatCutterx2
namespace Go.Proofs.Ytkjjmelhnbjoeaa.Pure
open Go.RowKit Go.Proofs.Ytkjjmelhnbjoeaa.PFnExactFlatCutter Go.Proofs.YtkjjmelhnbjoeaaW.PrintWords Go.Proofs.YtkjjmelhnbjoeaaW.PrintLast
set_option linter.unusedVariables false

theorem b_wrap (x : Int) (h : -9223372036854775808 ≤ x) (h' : x ≤ 9223372036854775807) : wrap64 x = x := by
  unfold wrap64; omega

theorem b_rd (l : List Int) (i : Nat) (h : i < l.length) : rd l (i : Int) = l[i] := by
  unfold rd; rw [List.getD_eq_getElem?_getD, Int.toNat_natCast, List.getElem?_eq_getElem h]; rfl

theorem b_take (l : List Int) (i : Nat) (h : i < l.length) : l.take (i + 1) = l.take i ++ [l[i]] := by
  rw [List.take_succ_eq_append_getElem h]

theorem b_set (x : List Int) (i : Nat) (v : Int) (h : i < x.length) : (x.set i v).take (i + 1) = x.take i ++ [v] := by
  have h' : i < (x.set i v).length := by rw [List.length_set]; exact h
  rw [List.take_succ_eq_append_getElem h', List.getElem_set_self, List.take_set_of_le (Nat.le_refl i)]
theorem laws_eqCutter_l (l : List Int) (hl : l.length ≤ 1048576) (d : Nat) : ∀ (k : Nat) (i : Nat), l.length - i = d → d < k → laws_eqCutter.l0 k l l (i : Int) = some true := by
  induction d with
  | zero =>
    intro k i hd hk
    obtain ⟨k, rfl⟩ : ∃ m, k = m + 1 := ⟨k - 1, by omega⟩
    simp only [laws_eqCutter.l0]; rw [if_neg (by omega)]
  | succ d ih =>
    intro k i hd hk
    obtain ⟨k, rfl⟩ : ∃ m, k = m + 1 := ⟨k - 1, by omega⟩
    simp only [laws_eqCutter.l0]; rw [if_pos (by omega), if_pos (by omega), if_pos (by omega), if_pos trivial]
    rw [b_wrap _ (by omega) (by omega), show ((i : Int) + 1) = ((i + 1 : Nat) : Int) by omega]
    exact ih k (i + 1) (by omega) (by omega)

theorem laws_eqCutter_t (l : List Int) (hl : l.length ≤ 1048576) (k : Nat) (hk : l.length < k) : laws_eqCutter.f k l l = some true := by
  unfold laws_eqCutter.f
  rw [if_pos rfl]
  exact laws_eqCutter_l l hl l.length k 0 (by omega) hk
theorem laws_markCutter_l (d : Nat) : ∀ (k : Nat) (x : List Int) (a : Int) (i : Nat), x.length - i = d → x.length ≤ 1048576 → d < k → 0 ≤ a → a ≤ 4611686018427387904 - d →
    ∃ y, laws_markCutter.l0 k x a (i : Int) = some (a + d, y) ∧ y.length = x.length ∧ (∀ j, j < i → y.getD j 0 = x.getD j 0) ∧ (∀ j, i ≤ j → j < x.length → y.getD j 0 = IntKind.i16.wrap (a + ((j - i : Nat) : Int))) := by
  induction d with
  | zero =>
    intro k x a i hd hx hk ha hb
    obtain ⟨k, rfl⟩ : ∃ m, k = m + 1 := ⟨k - 1, by omega⟩
    refine ⟨x, ?_, rfl, fun _ _ => rfl, fun j h1 h2 => by omega⟩
    simp only [laws_markCutter.l0]; rw [if_neg (by omega)]; simp
  | succ d ih =>
    intro k x a i hd hx hk ha hb
    obtain ⟨k, rfl⟩ : ∃ m, k = m + 1 := ⟨k - 1, by omega⟩
    simp only [laws_markCutter.l0]; rw [if_pos (by omega), if_pos (by omega), Int.toNat_natCast]
    rw [b_wrap _ (by omega) (by omega), b_wrap _ (by omega) (by omega), show ((i : Int) + 1) = ((i + 1 : Nat) : Int) by omega]
    obtain ⟨y, hy, hl, h1, h2⟩ := ih k (x.set i (IntKind.i16.wrap a)) (a + 1) (i + 1) (by rw [List.length_set]; omega) (by rw [List.length_set]; exact hx) (by omega) (by omega) (by omega)
    refine ⟨y, ?_, by rw [hl, List.length_set], ?_, ?_⟩
    · rw [hy]; congr 2; omega
    · intro j hj
      rw [h1 j (by omega)]
      simp only [List.getD_eq_getElem?_getD]; rw [List.getElem?_set_ne (by omega)]
    · intro j hj hj'
      by_cases e : j = i
      · subst e
        rw [h1 j (by omega)]
        simp only [List.getD_eq_getElem?_getD]; rw [List.getElem?_set_self (by omega)]; simp
      · rw [h2 j (by omega) (by rw [List.length_set]; exact hj')]
        congr 1; omega

theorem laws_heldCutter_l (x : List Int) (hx : x.length ≤ 1048576) (d : Nat) : ∀ (k : Nat) (a : Int) (i : Nat), x.length - i = d → d < k → 0 ≤ a → a ≤ 4611686018427387904 - d → (∀ j, i ≤ j → j < x.length → x.getD j 0 = IntKind.i16.wrap (a + ((j - i : Nat) : Int))) →
    laws_heldCutter.l0 k x a (i : Int) = some (a + d) := by
  induction d with
  | zero =>
    intro k a i hd hk ha hb h
    obtain ⟨k, rfl⟩ : ∃ m, k = m + 1 := ⟨k - 1, by omega⟩
    simp only [laws_heldCutter.l0]; rw [if_neg (by omega)]; simp
  | succ d ih =>
    intro k a i hd hk ha hb h
    obtain ⟨k, rfl⟩ : ∃ m, k = m + 1 := ⟨k - 1, by omega⟩
    have h0 : rd x (i : Int) = IntKind.i16.wrap a := by
      have := h i (Nat.le_refl _) (by omega)
      unfold rd; rw [Int.toNat_natCast, this]; simp
    simp only [laws_heldCutter.l0]; rw [if_pos (by omega), if_pos (by omega), if_pos h0]
    rw [b_wrap _ (by omega) (by omega), b_wrap _ (by omega) (by omega), show ((i : Int) + 1) = ((i + 1 : Nat) : Int) by omega]
    rw [ih k (a + 1) (i + 1) (by omega) (by omega) (by omega) (by omega) ?_]
    · congr 1; omega
    · intro j h1 h2
      rw [h j (by omega) h2]; congr 1; omega

theorem laws_markCutter_t (x : List Int) (hx : x.length ≤ 1048576) : ∃ y, (∀ k, x.length < k → laws_markCutter.f k x 1 = some (1 + (x.length : Int), y)) ∧ (∀ k, x.length < k → laws_heldCutter.f k y 1 = some (1 + (x.length : Int))) := by
  obtain ⟨y, hy, hl, _, h2⟩ := laws_markCutter_l x.length (x.length + 1) x 1 0 (by omega) hx (by omega) (by omega) (by omega)
  refine ⟨y, fun k hk => at_rounds (laws_markCutter.mono x 1) (show x.length + 1 ≤ k by omega) hy, fun k hk => ?_⟩
  unfold laws_heldCutter.f
  rw [← hl]
  exact laws_heldCutter_l y (by omega) y.length k 1 0 (by omega) (by omega) (by omega) (by omega) (fun j h0 hj => h2 j h0 (by omega))
theorem impl_inRange_t (a b c : Int) : impl_inRange.f a b c = some (decide (b ≤ a ∧ a ≤ c)) := by
  unfold impl_inRange.f
  by_cases h : b ≤ a
  · rw [if_pos h]; simp [h]
  · rw [if_neg h]; simp [h]
theorem spec_l00In_t (a b c : Int) : spec_l00In.f a b c = some (decide (b ≤ a ∧ a ≤ c)) := by
  unfold spec_l00In.f
  by_cases h : b ≤ a
  · rw [if_pos h]; simp [h]
  · rw [if_neg h]; simp [h]

theorem FnExactFlatCutter : laws_FnExactFlatCutter.Pure := by
  intro a0 _
  have e : impl_FlatCutter.f a0 = spec_FlatCutter.f a0 := by
    unfold impl_FlatCutter.f spec_FlatCutter.f
    simp only [impl_inRange_t, spec_l00In_t, Option.bind_some]
    by_cases h : 1 ≤ a0 ∧ a0 ≤ 31
    · rcases (by rw [Int.tmod_eq_emod_of_nonneg (by omega)]; omega : Int.tmod a0 2 = 0 ∨ Int.tmod a0 2 = 1) with h2 | h2 <;> simp [h, h2]
    · simp [h]
  have hs : ∃ l c, spec_FlatCutter.f a0 = some (l, c) ∧ l.length ≤ 31 := by
    unfold spec_FlatCutter.f
    simp only [spec_l00In_t, Option.bind_some]
    by_cases h : 1 ≤ a0 ∧ a0 ≤ 31
    · rw [if_pos (by simpa using h)]
      by_cases h2 : Int.tmod a0 2 = 0
      · rw [if_pos h2]; exact ⟨_, _, rfl, by simp⟩
      · rw [if_neg h2, if_pos (by omega), if_pos (by omega)]
        exact ⟨_, _, rfl, by rw [List.length_replicate]; omega⟩
    · rw [if_neg (by simpa using h)]; exact ⟨_, _, rfl, by simp⟩
  obtain ⟨l, c, hs, hl⟩ := hs
  obtain ⟨y, hm, hh⟩ := laws_markCutter_t l (by omega)
  refine ⟨50, ?_⟩
  unfold laws_FnExactFlatCutter.f
  rw [e, hs]; simp only [Option.bind_some]
  rw [laws_eqCutter_t l (by omega) 50 (by omega)]; simp only [Option.bind_some, if_true]
  rw [show (50 : Nat) = 49 + 1 from rfl]; simp only [laws_FnExactFlatCutter.j0]
  rw [if_neg (by simp), hm 49 (by omega)]; simp only [Option.bind_some]
  rw [hh 49 (by omega)]; simp only [Option.bind_some]
  rw [if_neg (by omega), if_pos trivial, e, hs]; simp only [Option.bind_some]
  rw [laws_eqCutter_t l (by omega) 49 (by omega)]; simp only [Option.bind_some, if_true]
  rw [show (49 : Nat) = 48 + 1 from rfl]; simp only [laws_FnExactFlatCutter.j1]
  rw [if_neg (by simp)]
  rw [hh 48 (by omega)]; simp only [Option.bind_some]
  rw [if_neg (by omega), if_pos trivial]

end Go.Proofs.Ytkjjmelhnbjoeaa.Pure
