/- The pure statement of the law FnExactValidCutter is proved: for every input that the law speaks of, the law's function answers true. No conditions beyond the statement's own. -/
import Derived.Test.YtkjjmelhnbjoeaaFFnExactValidCutterx
namespace Go.Proofs.Ytkjjmelhnbjoeaa.Pure
open Go.RowKit Go.Proofs.Ytkjjmelhnbjoeaa.FFnExactValidCutter Go.Proofs.YtkjjmelhnbjoeaaW.PrintWords Go.Proofs.YtkjjmelhnbjoeaaW.PrintLast
set_option linter.unusedVariables false

theorem b_wrap (x : Int) (h : -9223372036854775808 ≤ x) (h' : x ≤ 9223372036854775807) : wrap64 x = x := by
  unfold wrap64; omega

theorem b_rd (l : List Int) (i : Nat) (h : i < l.length) : rd l (i : Int) = l[i] := by
  unfold rd; rw [List.getD_eq_getElem?_getD, Int.toNat_natCast, List.getElem?_eq_getElem h]; rfl

theorem b_take (l : List Int) (i : Nat) (h : i < l.length) : l.take (i + 1) = l.take i ++ [l[i]] := by
  rw [List.take_succ_eq_append_getElem h]

theorem b_set (x : List Int) (i : Nat) (v : Int) (h : i < x.length) : (x.set i v).take (i + 1) = x.take i ++ [v] := by
  have h' : i < (x.set i v).length := by rw [List.length_set]; exact h
  rw [List.take_succ_eq_append_getElem h', List.getElem_set_self, List.take_set_of_le (Nat.le_refl i)]
theorem laws_toCutter_l (l : List Int) (hl : l.length ≤ 140737488355328) (d : Nat) : ∀ (k : Nat) (x : List Int) (i : Nat), l.length - i = d → d < k → x.length = l.length → x.take i = l.take i → laws_toCutter.l0 k l x (i : Int) = some l := by
  induction d with
  | zero =>
    intro k x i hd hk hx ht
    obtain ⟨k, rfl⟩ : ∃ m, k = m + 1 := ⟨k - 1, by omega⟩
    simp only [laws_toCutter.l0]; rw [if_neg (by omega)]
    rw [List.take_of_length_le (by omega), List.take_of_length_le (by omega)] at ht
    rw [ht]
  | succ d ih =>
    intro k x i hd hk hx ht
    obtain ⟨k, rfl⟩ : ∃ m, k = m + 1 := ⟨k - 1, by omega⟩
    simp only [laws_toCutter.l0]; rw [if_pos (by omega), if_pos (by omega), if_pos (by omega)]
    rw [b_wrap _ (by omega) (by omega), b_rd l i (by omega), Int.toNat_natCast]
    rw [show ((i : Int) + 1) = ((i + 1 : Nat) : Int) by omega]
    refine ih k _ (i + 1) (by omega) (by omega) (by rw [List.length_set]; exact hx) ?_
    rw [b_set x i _ (by omega), b_take l i (by omega), ht]

theorem laws_toCutter_t (l : List Int) (hl : l.length ≤ 1048576) (k : Nat) (hk : l.length < k) : laws_toCutter.f k l = some l := by
  unfold laws_toCutter.f
  rw [if_pos (by omega), if_pos (by omega), Int.toNat_natCast]
  exact laws_toCutter_l l (by omega) l.length k _ 0 (by omega) hk (by simp) rfl
theorem laws_eqCutter_l (l : List Int) (hl : l.length ≤ 1048576) (d : Nat) : ∀ (k : Nat) (i : Nat), l.length - i = d → d < k → laws_eqCutter.l0 k l l (i : Int) = some true := by
  induction d with
  | zero =>
    intro k i hd hk
    obtain ⟨k, rfl⟩ : ∃ m, k = m + 1 := ⟨k - 1, by omega⟩
    simp only [laws_eqCutter.l0]; rw [if_neg (by omega)]
  | succ d ih =>
    intro k i hd hk
    obtain ⟨k, rfl⟩ : ∃ m, k = m + 1 := ⟨k - 1, by omega⟩
    simp only [laws_eqCutter.l0]; rw [if_pos (by omega), if_pos (by omega), if_pos (by omega), if_pos trivial]
    rw [b_wrap _ (by omega) (by omega), show ((i : Int) + 1) = ((i + 1 : Nat) : Int) by omega]
    exact ih k (i + 1) (by omega) (by omega)

theorem laws_eqCutter_t (l : List Int) (hl : l.length ≤ 1048576) (k : Nat) (hk : l.length < k) : laws_eqCutter.f k l l = some true := by
  unfold laws_eqCutter.f
  rw [if_pos rfl]
  exact laws_eqCutter_l l hl l.length k 0 (by omega) hk
theorem impl_inRange_t (a b c : Int) : impl_inRange.f a b c = some (decide (b ≤ a ∧ a ≤ c)) := by
  unfold impl_inRange.f
  by_cases h : b ≤ a
  · rw [if_pos h]; simp [h]
  · rw [if_neg h]; simp [h]
theorem spec_l00In_t (a b c : Int) : spec_l00In.f a b c = some (decide (b ≤ a ∧ a ≤ c)) := by
  unfold spec_l00In.f
  by_cases h : b ≤ a
  · rw [if_pos h]; simp [h]
  · rw [if_neg h]; simp [h]

theorem b_rdN (x : List Int) (j : Nat) : rd x (j : Int) = x.getD j 0 := by unfold rd; rw [Int.toNat_natCast]

def SP (x : List Int) (j : Nat) : Prop := (0 ≤ x.getD j 0 ∧ x.getD j 0 ≤ 10000) ∧ x.getD (x.length - 1 - j) 0 = x.getD j 0 ∧ (0 < j → ¬ x.getD (j - 1) 0 < x.getD j 0)
def IP (x : List Int) (j : Nat) : Prop := (0 ≤ x.getD j 0 ∧ x.getD j 0 ≤ 10000) ∧ x.getD j 0 = x.getD (x.length - 1 - j) 0 ∧ (x.length / 2 < j → ¬ x.getD j 0 < x.getD (j - 1) 0)

theorem spec_loop (x : List Int) (hx : x.length ≤ 31) (h0 : 0 < x.length) (hb : ∀ j : Nat, -32768 ≤ x.getD j 0 ∧ x.getD j 0 ≤ 32767) (d : Nat) : ∀ (k i : Nat), x.length / 2 + 1 - i = d → d < k →
    ∃ r, spec_l06Ok.l0 k x (x.length : Int) (i : Int) = some r ∧ (r = true ↔ ∀ j, i ≤ j → j ≤ x.length / 2 → SP x j) := by
  induction d with
  | zero =>
    intro k i hd hk
    obtain ⟨k, rfl⟩ : ∃ m, k = m + 1 := ⟨k - 1, by omega⟩
    refine ⟨true, ?_, by simp; intro j h1 h2; omega⟩
    have ht : Int.tdiv (x.length : Int) 2 = ((x.length / 2 : Nat) : Int) := rfl
    simp only [spec_l06Ok.l0]; rw [ht, b_wrap _ (by omega) (by omega), if_neg (by omega)]
  | succ d ih =>
    intro k i hd hk
    obtain ⟨k, rfl⟩ : ∃ m, k = m + 1 := ⟨k - 1, by omega⟩
    have ht : Int.tdiv (x.length : Int) 2 = ((x.length / 2 : Nat) : Int) := rfl
    have hbi := hb i
    obtain ⟨r, hr, hrt⟩ := ih k (i + 1) (by omega) (by omega)
    have hnext : spec_l06Ok.l0 k x (x.length : Int) (wrap64 ((i : Int) + 1)) = some r := by
      rw [b_wrap _ (by omega) (by omega), show ((i : Int) + 1) = ((i + 1 : Nat) : Int) by omega]; exact hr
    have step : ∀ (Q : Prop), (SP x i ↔ Q) → Q → (r = true ↔ ∀ j, i ≤ j → j ≤ x.length / 2 → SP x j) := by
      intro Q e q
      rw [hrt]
      refine ⟨fun h j h1 h2 => ?_, fun h j h1 h2 => h j (by omega) h2⟩
      by_cases c : j = i
      · subst c; exact e.mpr q
      · exact h j (by omega) h2
    have stop : ¬ SP x i → ((false : Bool) = true ↔ ∀ j, i ≤ j → j ≤ x.length / 2 → SP x j) :=
      fun h => ⟨(fun e => by cases e), fun e => absurd (e i (Nat.le_refl _) (by omega)) h⟩
    simp only [spec_l06Ok.l0]; rw [ht, b_wrap ((x.length / 2 : Nat) : Int) (by omega) (by omega), if_pos (by omega), if_pos (by omega), if_pos (by omega), b_rdN, b_wrap _ (by omega) (by omega)]
    unfold spec_l01Lift.f
    simp only [spec_l00In_t, Option.bind_some]
    by_cases c1 : 0 ≤ x.getD i 0 ∧ x.getD i 0 ≤ 10000
    · rw [if_pos (by simpa using c1)]
      rw [b_wrap ((x.length : Int) - 1) (by omega) (by omega), b_wrap _ (by omega) (by omega), if_pos (by omega), if_pos (by omega), show ((x.length : Int) - 1 - (i : Int)) = ((x.length - 1 - i : Nat) : Int) by omega, b_rdN]
      by_cases c2 : x.getD (x.length - 1 - i) 0 = x.getD i 0
      · rw [if_pos c2]
        by_cases c3 : (i : Int) > 0
        · rw [if_pos c3, b_wrap _ (by omega) (by omega), if_pos (by omega), if_pos (by omega), show ((i : Int) - 1) = ((i - 1 : Nat) : Int) by omega, b_rdN]
          by_cases c4 : x.getD (i - 1) 0 < x.getD i 0
          · rw [if_pos c4]; exact ⟨false, rfl, stop (fun h => h.2.2 (by omega) c4)⟩
          · rw [if_neg c4]; exact ⟨r, hnext, step True ⟨fun _ => trivial, fun _ => ⟨c1, c2, fun _ => c4⟩⟩ trivial⟩
        · rw [if_neg c3]; exact ⟨r, hnext, step True ⟨fun _ => trivial, fun _ => ⟨c1, c2, fun h => by omega⟩⟩ trivial⟩
      · rw [if_neg c2]; exact ⟨false, rfl, stop (fun h => c2 h.2.1)⟩
    · rw [if_neg (by simpa using c1)]; exact ⟨false, rfl, stop (fun h => c1 h.1)⟩

theorem impl_loop (x : List Int) (hx : x.length ≤ 31) (h0 : 0 < x.length) (hb : ∀ j : Nat, -32768 ≤ x.getD j 0 ∧ x.getD j 0 ≤ 32767) (d : Nat) : ∀ (k i : Nat), x.length - i = d → d < k →
    ∃ r, impl_ValidCutter.l0 k x (x.length : Int) x (x.length : Int) (i : Int) = some r ∧ (r = true ↔ ∀ j, i ≤ j → j < x.length → IP x j) := by
  induction d with
  | zero =>
    intro k i hd hk
    obtain ⟨k, rfl⟩ : ∃ m, k = m + 1 := ⟨k - 1, by omega⟩
    refine ⟨true, ?_, by simp; intro j h1 h2; omega⟩
    simp only [impl_ValidCutter.l0]; rw [if_neg (by omega)]
  | succ d ih =>
    intro k i hd hk
    obtain ⟨k, rfl⟩ : ∃ m, k = m + 1 := ⟨k - 1, by omega⟩
    have ht : Int.tdiv (x.length : Int) 2 = ((x.length / 2 : Nat) : Int) := rfl
    have hbi := hb i
    obtain ⟨r, hr, hrt⟩ := ih k (i + 1) (by omega) (by omega)
    have hnext : impl_ValidCutter.l0 k x (x.length : Int) x (x.length : Int) (wrap64 ((i : Int) + 1)) = some r := by
      rw [b_wrap _ (by omega) (by omega), show ((i : Int) + 1) = ((i + 1 : Nat) : Int) by omega]; exact hr
    have step : ∀ (Q : Prop), (IP x i ↔ Q) → Q → (r = true ↔ ∀ j, i ≤ j → j < x.length → IP x j) := by
      intro Q e q
      rw [hrt]
      refine ⟨fun h j h1 h2 => ?_, fun h j h1 h2 => h j (by omega) h2⟩
      by_cases c : j = i
      · subst c; exact e.mpr q
      · exact h j (by omega) h2
    have stop : ¬ IP x i → ((false : Bool) = true ↔ ∀ j, i ≤ j → j < x.length → IP x j) :=
      fun h => ⟨(fun e => by cases e), fun e => absurd (e i (Nat.le_refl _) (by omega)) h⟩
    simp only [impl_ValidCutter.l0]; rw [if_pos (by omega), if_pos (by omega), if_pos (by omega), b_rdN, b_wrap (x.getD i 0) (by omega) (by omega)]
    unfold impl_isLift.f
    simp only [impl_inRange_t, Option.bind_some]
    by_cases c1 : 0 ≤ x.getD i 0 ∧ x.getD i 0 ≤ 10000
    · rw [if_pos (by simpa using c1)]
      rw [b_wrap ((x.length : Int) - 1) (by omega) (by omega), b_wrap ((x.length : Int) - 1 - (i : Int)) (by omega) (by omega), if_pos (by omega), if_pos (by omega), show ((x.length : Int) - 1 - (i : Int)) = ((x.length - 1 - i : Nat) : Int) by omega, b_rdN]
      by_cases c2 : x.getD i 0 = x.getD (x.length - 1 - i) 0
      · rw [if_pos c2, ht, b_wrap ((x.length / 2 : Nat) : Int) (by omega) (by omega)]
        by_cases c3 : (i : Int) > ((x.length / 2 : Nat) : Int)
        · rw [if_pos c3, b_wrap _ (by omega) (by omega), if_pos (by omega), if_pos (by omega), show ((i : Int) - 1) = ((i - 1 : Nat) : Int) by omega, b_rdN]
          by_cases c4 : x.getD i 0 < x.getD (i - 1) 0
          · rw [if_pos c4]; exact ⟨false, rfl, stop (fun h => h.2.2 (by omega) c4)⟩
          · rw [if_neg c4]; exact ⟨r, hnext, step True ⟨fun _ => trivial, fun _ => ⟨c1, c2, fun _ => c4⟩⟩ trivial⟩
        · rw [if_neg c3]; exact ⟨r, hnext, step True ⟨fun _ => trivial, fun _ => ⟨c1, c2, fun h => by omega⟩⟩ trivial⟩
      · rw [if_neg c2]; exact ⟨false, rfl, stop (fun h => c2 h.2.1)⟩
    · rw [if_neg (by simpa using c1)]; exact ⟨false, rfl, stop (fun h => c1 h.1)⟩

theorem both (x : List Int) (hx : x.length ≤ 31) (h0 : x.length % 2 = 1) : (∀ j, 0 ≤ j → j ≤ x.length / 2 → SP x j) ↔ (∀ j, 0 ≤ j → j < x.length → IP x j) := by
  constructor
  · intro h j _ hj
    by_cases c : j ≤ x.length / 2
    · have a := h j (by omega) c
      exact ⟨a.1, a.2.1.symm, fun q => by omega⟩
    · have a := h (x.length - 1 - j) (by omega) (by omega)
      have b := h (x.length - 1 - j + 1) (by omega) (by omega)
      rw [SP] at a b
      rw [show x.length - 1 - (x.length - 1 - j) = j by omega] at a
      rw [show x.length - 1 - (x.length - 1 - j + 1) = j - 1 by omega, show x.length - 1 - j + 1 - 1 = x.length - 1 - j by omega] at b
      refine ⟨by rw [a.2.1]; exact a.1, a.2.1, fun _ => ?_⟩
      rw [a.2.1, b.2.1]
      have := b.2.2 (by omega)
      omega
  · intro h j _ hj
    have a := h j (by omega) (by omega)
    refine ⟨a.1, a.2.1.symm, fun q => ?_⟩
    have b := h (x.length - 1 - j + 1) (by omega) (by omega)
    rw [IP] at a b
    rw [show x.length - 1 - (x.length - 1 - j + 1) = j - 1 by omega, show x.length - 1 - j + 1 - 1 = x.length - 1 - j by omega] at b
    rw [a.2.1, ← b.2.1]
    have := b.2.2 (by omega)
    omega

theorem valid_t (x : List Int) (hb : ∀ j : Nat, -32768 ≤ x.getD j 0 ∧ x.getD j 0 ≤ 32767) (k : Nat) (hk : 40 ≤ k) : ∃ r, spec_ValidCutter.f k x = some r ∧ impl_ValidCutter.f k x = some r := by
  obtain ⟨k, rfl⟩ : ∃ m, k = m + 1 := ⟨k - 1, by omega⟩
  unfold spec_ValidCutter.f spec_l06Ok.f impl_ValidCutter.f
  simp only [spec_l00In_t, Option.bind_some]
  by_cases c1 : (1 : Int) ≤ (x.length : Int) ∧ (x.length : Int) ≤ 31
  · rw [if_pos (by simpa using c1)]
    by_cases c2 : (x.length : Int) % 2 = 0
    · rw [if_pos c2, if_pos c2]
      simp only [spec_l06Ok.j0, impl_ValidCutter.j0, if_true, Option.bind_some]; exact ⟨false, rfl, rfl⟩
    · have e1 : ¬ (x.length : Int) > 31 := by omega
      have e2 : 0 ≤ (x.length : Int) / 2 := by omega
      have e3 : (x.length : Int) / 2 < (x.length : Int) := by omega
      simp only [if_neg c2, if_neg e1, b_wrap ((x.length : Int) / 2) (by omega) (by omega), if_pos e2, if_pos e3]
      simp only [spec_l06Ok.j0, impl_ValidCutter.j0]
      by_cases c3 : (rd x ((x.length : Int) / 2) != 0) = true
      · rw [if_pos c3, if_pos c3]; exact ⟨false, rfl, rfl⟩
      · rw [if_neg c3, if_neg c3]
        obtain ⟨r, h1, h2⟩ := spec_loop x (by omega) (by omega) hb (x.length / 2 + 1) k 0 (by omega) (by omega)
        obtain ⟨q, h3, h4⟩ := impl_loop x (by omega) (by omega) hb x.length k 0 (by omega) (by omega)
        have e : r = q := by
          rw [both x (by omega) (by omega), ← h4] at h2
          exact Bool.eq_iff_iff.mpr h2
        subst e
        exact ⟨r, by rw [show ((0 : Int)) = ((0 : Nat) : Int) from rfl, h1]; rfl, h3⟩
  · rw [if_neg (by simpa using c1)]
    simp only [spec_l06Ok.j0, if_true, Option.bind_some]
    refine ⟨false, rfl, ?_⟩
    by_cases c2 : (x.length : Int) % 2 = 0
    · rw [if_pos c2]; simp only [impl_ValidCutter.j0, if_true]
    · rw [if_neg c2, if_pos (by omega)]; simp only [impl_ValidCutter.j0, if_true]

theorem FnExactValidCutter : laws_FnExactValidCutter.Pure := by
  intro l _ _ hw
  by_cases hl : (l.length : Int) > 1048576
  · exact ⟨0, by unfold laws_FnExactValidCutter.f; rw [if_pos hl]⟩
  have hb : ∀ j : Nat, -32768 ≤ l.getD j 0 ∧ l.getD j 0 ≤ 32767 := by
    intro j
    rw [List.getD_eq_getElem?_getD]
    by_cases hj : j < l.length
    · rw [List.getElem?_eq_getElem hj]
      have := hw _ (List.getElem_mem hj)
      simp [Lit.wf, IntKind.min, IntKind.max, IntKind.bits, IntKind.signed] at this
      simpa using this
    · rw [List.getElem?_eq_none (by omega)]; simp
  obtain ⟨r, h1, h2⟩ := valid_t l hb 1048577 (by omega)
  refine ⟨1048577, ?_⟩
  unfold laws_FnExactValidCutter.f
  generalize hk : (1048577 : Nat) = k at h1 h2 ⊢
  rw [if_neg hl]
  simp only [laws_toCutter_t l (by omega) k (by omega), Option.bind_some, h1, h2, laws_eqCutter_t l (by omega) k (by omega), if_true]
  simp

end Go.Proofs.Ytkjjmelhnbjoeaa.Pure
