/- The pure statement of the law FnExactWheelsFor is proved: for every input that the law speaks of, the law's function answers true. No conditions beyond the statement's own. -/
import Derived.Test.YtkjjmelhnbjoeaaPFnExactWheelsForx1
namespace Go.Proofs.Ytkjjmelhnbjoeaa.Pure
open Go.RowKit Go.Proofs.Ytkjjmelhnbjoeaa.PFnExactWheelsFor Go.Proofs.YtkjjmelhnbjoeaaW.PrintWords Go.Proofs.YtkjjmelhnbjoeaaW.PrintLast
set_option linter.unusedVariables false

theorem b_wrap (x : Int) (h : -9223372036854775808 ≤ x) (h' : x ≤ 9223372036854775807) : wrap64 x = x := by
  unfold wrap64; omega

theorem b_rd (l : List Int) (i : Nat) (h : i < l.length) : rd l (i : Int) = l[i] := by
  unfold rd; rw [List.getD_eq_getElem?_getD, Int.toNat_natCast, List.getElem?_eq_getElem h]; rfl

theorem b_take (l : List Int) (i : Nat) (h : i < l.length) : l.take (i + 1) = l.take i ++ [l[i]] := by
  rw [List.take_succ_eq_append_getElem h]

theorem b_set (x : List Int) (i : Nat) (v : Int) (h : i < x.length) : (x.set i v).take (i + 1) = x.take i ++ [v] := by
  have h' : i < (x.set i v).length := by rw [List.length_set]; exact h
  rw [List.take_succ_eq_append_getElem h', List.getElem_set_self, List.take_set_of_le (Nat.le_refl i)]
theorem impl_inRange_t (a b c : Int) : impl_inRange.f a b c = some (decide (b ≤ a ∧ a ≤ c)) := by
  unfold impl_inRange.f
  by_cases h : b ≤ a
  · rw [if_pos h]; simp [h]
  · rw [if_neg h]; simp [h]
theorem spec_l00In_t (a b c : Int) : spec_l00In.f a b c = some (decide (b ≤ a ∧ a ≤ c)) := by
  unfold spec_l00In.f
  by_cases h : b ≤ a
  · rw [if_pos h]; simp [h]
  · rw [if_neg h]; simp [h]

theorem gcd_l (k : Nat) : ∀ (b a : Nat), b < k → impl_common.l0 k (a : Int) (b : Int) = some ((Nat.gcd a b : Nat) : Int) ∧ spec_l04Gcd.f k (a : Int) (b : Int) = some ((Nat.gcd a b : Nat) : Int) := by
  induction k with
  | zero => intro b a hk; omega
  | succ k ih =>
    intro b a hk
    simp only [impl_common.l0, spec_l04Gcd.f]
    by_cases hb : (b : Int) = 0
    · have : b = 0 := by omega
      subst this
      rw [if_pos hb, if_pos hb]; simp
    · rw [if_neg hb, if_neg hb]
      have hm : Int.tmod (a : Int) (b : Int) = ((a % b : Nat) : Int) := (Int.ofNat_tmod a b).symm
      have hlt : a % b < b := Nat.mod_lt _ (by omega)
      have hg : Nat.gcd b (a % b) = Nat.gcd a b := by
        rw [Nat.gcd_comm a b, Nat.gcd_rec b a, Nat.gcd_comm]
      rw [hm, (ih (a % b) b (by omega)).1, (ih (a % b) b (by omega)).2, hg]
      exact ⟨rfl, rfl⟩

theorem floor8 (p : Int) (h1 : 1 ≤ p) (h2 : p ≤ 1000) : ∃ n : Int, impl_floorDiv.f (-8) p = some (-n) ∧ 1 ≤ n ∧ n ≤ 8 ∧ 8 ≤ n * p ∧ (n - 1) * p < 8 := by
  by_cases h8 : 8 < p
  · refine ⟨1, ?_, by omega, by omega, by omega, by omega⟩
    unfold impl_floorDiv.f
    have hd : Int.tdiv (-8) p = 0 := by rw [Int.neg_tdiv, Int.tdiv_eq_zero_of_lt (by omega) h8]; rfl
    have hm : Int.tmod (-8) p = -8 := by rw [Int.neg_tmod, Int.tmod_eq_of_lt (by omega) h8]
    rw [if_neg (by omega), hm, if_pos (by omega), hd, b_wrap 0 (by omega) (by omega), b_wrap _ (by omega) (by omega)]; rfl
  · rcases (by omega : p = 1 ∨ p = 2 ∨ p = 3 ∨ p = 4 ∨ p = 5 ∨ p = 6 ∨ p = 7 ∨ p = 8) with h | h | h | h | h | h | h | h <;> subst h
    · exact ⟨8, by unfold impl_floorDiv.f wrap64; simp, by omega, by omega, by omega, by omega⟩
    · exact ⟨4, by unfold impl_floorDiv.f wrap64; simp, by omega, by omega, by omega, by omega⟩
    · exact ⟨3, by unfold impl_floorDiv.f wrap64; simp, by omega, by omega, by omega, by omega⟩
    · exact ⟨2, by unfold impl_floorDiv.f wrap64; simp, by omega, by omega, by omega, by omega⟩
    · exact ⟨2, by unfold impl_floorDiv.f wrap64; simp, by omega, by omega, by omega, by omega⟩
    · exact ⟨2, by unfold impl_floorDiv.f wrap64; simp, by omega, by omega, by omega, by omega⟩
    · exact ⟨2, by unfold impl_floorDiv.f wrap64; simp, by omega, by omega, by omega, by omega⟩
    · exact ⟨1, by unfold impl_floorDiv.f wrap64; simp, by omega, by omega, by omega, by omega⟩

theorem mul_bd (p i : Int) (h1 : 1 ≤ p) (h2 : p ≤ 1000) (h3 : 1 ≤ i) (h4 : i ≤ 121) : 0 ≤ p * i ∧ p * i ≤ 121000 :=
  ⟨Int.mul_nonneg (by omega) (by omega), Int.le_trans (Int.mul_le_mul h2 h4 (by omega) (by omega)) (by omega)⟩

theorem wheels_l (p q N : Int) (hp : 1 ≤ p) (hp' : p ≤ 1000) (hq : 1 ≤ q) (hq' : q ≤ 1000) (hN : 1 ≤ N) (hN' : N ≤ 8) (hP : 8 ≤ p * N) (hQ : 8 ≤ q * N) (hlow : ∀ i : Int, 1 ≤ i → i < N → p * i < 8 ∨ q * i < 8)
    (d : Nat) : ∀ (k : Nat) (i : Int), 1 ≤ i → i ≤ 121 → 121 - i = d → d < k → (N < i → 120 < p * N ∨ 120 < q * N) →
    spec_WheelsFor.l0 k p q i = some (if 120 < p * N ∨ 120 < q * N then (0, 0, 6) else (p * N, q * N, 0)) := by
  induction d with
  | zero =>
    intro k i h1 h2 hd hk hi
    obtain ⟨k, rfl⟩ : ∃ m, k = m + 1 := ⟨k - 1, by omega⟩
    simp only [spec_WheelsFor.l0]
    rw [if_neg (by omega), if_pos (hi (by omega))]
  | succ d ih =>
    intro k i h1 h2 hd hk hi
    obtain ⟨k, rfl⟩ : ∃ m, k = m + 1 := ⟨k - 1, by omega⟩
    have bp := mul_bd p i hp hp' h1 h2
    have bq := mul_bd q i hq hq' h1 h2
    have nxt : (N < i + 1 → 120 < p * N ∨ 120 < q * N) → spec_WheelsFor.l0 k p q (wrap64 (i + 1)) = some (if 120 < p * N ∨ 120 < q * N then (0, 0, 6) else (p * N, q * N, 0)) := by
      intro h
      rw [b_wrap _ (by omega) (by omega)]
      exact ih k (i + 1) (by omega) (by omega) (by omega) (by omega) h
    simp only [spec_WheelsFor.l0]
    rw [if_pos (by omega), b_wrap (p * i) (by omega) (by omega), b_wrap (q * i) (by omega) (by omega)]
    simp only [spec_l00In_t, Option.bind_some]
    by_cases c1 : 8 ≤ p * i ∧ p * i ≤ 120
    · rw [if_pos (by simpa using c1)]
      by_cases c2 : 8 ≤ q * i ∧ q * i ≤ 120
      · rw [if_pos (by simpa using c2)]
        have hNi : N = i := by
          by_cases c3 : i < N
          · have := hlow i h1 c3; omega
          · by_cases c4 : N < i
            · have m1 : p * N ≤ p * i := Int.mul_le_mul_of_nonneg_left (by omega) (by omega)
              have m2 : q * N ≤ q * i := Int.mul_le_mul_of_nonneg_left (by omega) (by omega)
              have := hi c4; omega
            · omega
        subst hNi
        rw [if_neg (by omega)]
      · rw [if_neg (by simpa using c2)]
        refine nxt (fun h => ?_)
        by_cases c4 : N < i
        · exact hi c4
        · have : N = i := by omega
          subst this; omega
    · rw [if_neg (by simpa using c1)]
      refine nxt (fun h => ?_)
      by_cases c4 : N < i
      · exact hi c4
      · have : N = i := by omega
        subst this; omega

theorem isWheel_t (a b : Int) : impl_isWheel.f a b = some (decide ((1 ≤ a ∧ a ≤ 1000) ∧ 1 ≤ b ∧ b ≤ 1000)) := by
  unfold impl_isWheel.f
  simp only [impl_inRange_t, Option.bind_some]
  by_cases h : 1 ≤ a ∧ a ≤ 1000
  · rw [if_pos (by simpa using h)]; simp [h]
  · rw [if_neg (by simpa using h)]; simp [h]

/-- Both find the same wheels, and these have the ratio. -/
theorem wheels_t (a b : Int) : ∃ x y c : Int, (∀ k, 1200 ≤ k → impl_WheelsFor.f k a b = some (x, y, c) ∧ spec_WheelsFor.f k a b = some (x, y, c)) ∧
    (c = 0 → x * b = y * a ∧ 8 ≤ x ∧ x ≤ 120 ∧ 8 ≤ y ∧ y ≤ 120) ∧ (c = 0 ∨ c = 6 ∨ ¬ ((1 ≤ a ∧ a ≤ 1000) ∧ 1 ≤ b ∧ b ≤ 1000)) := by
  by_cases h : (1 ≤ a ∧ a ≤ 1000) ∧ 1 ≤ b ∧ b ≤ 1000
  · obtain ⟨⟨ha, ha'⟩, hb, hb'⟩ := h
    obtain ⟨A, rfl⟩ := Int.eq_ofNat_of_zero_le (show 0 ≤ a by omega)
    obtain ⟨B, rfl⟩ := Int.eq_ofNat_of_zero_le (show 0 ≤ b by omega)
    have hG : 0 < Nat.gcd A B := Nat.gcd_pos_of_pos_left _ (by omega)
    have hGA : Nat.gcd A B ∣ A := Nat.gcd_dvd_left A B
    have hGB : Nat.gcd A B ∣ B := Nat.gcd_dvd_right A B
    have hg := fun k (hk : 1001 ≤ k) => gcd_l k B A (by omega)
    generalize Nat.gcd A B = G at hG hGA hGB hg
    obtain ⟨P, rfl⟩ := hGA
    obtain ⟨Q, rfl⟩ := hGB
    have dP : Int.tdiv ((G * P : Nat) : Int) (G : Int) = (P : Int) := by
      rw [← Int.ofNat_tdiv, Nat.mul_div_cancel_left _ hG]
    have dQ : Int.tdiv ((G * Q : Nat) : Int) (G : Int) = (Q : Int) := by
      rw [← Int.ofNat_tdiv, Nat.mul_div_cancel_left _ hG]
    have hP1 : 0 < P := Nat.pos_of_ne_zero (fun e => by subst e; simp at ha)
    have hQ1 : 0 < Q := Nat.pos_of_ne_zero (fun e => by subst e; simp at hb)
    have hP2 : P ≤ G * P := Nat.le_mul_of_pos_left P hG
    have hQ2 : Q ≤ G * Q := Nat.le_mul_of_pos_left Q hG
    have hratio : (P : Int) * ((G * Q : Nat) : Int) = (Q : Int) * ((G * P : Nat) : Int) := by
      rw [Int.natCast_mul, Int.natCast_mul, ← Int.mul_assoc, ← Int.mul_assoc, Int.mul_comm (P : Int) G, Int.mul_comm (Q : Int) G, Int.mul_assoc, Int.mul_assoc, Int.mul_comm (P : Int) Q]
    obtain ⟨n1, f1, n1a, n1b, n1c, n1d⟩ := floor8 (P : Int) (by omega) (by omega)
    obtain ⟨n2, f2, n2a, n2b, n2c, n2d⟩ := floor8 (Q : Int) (by omega) (by omega)
    have hN : ∃ N : Int, mx (wrap64 (- -n1)) (wrap64 (- -n2)) = N ∧ 1 ≤ N ∧ N ≤ 8 ∧ 8 ≤ (P : Int) * N ∧ 8 ≤ (Q : Int) * N ∧ ∀ i : Int, 1 ≤ i → i < N → (P : Int) * i < 8 ∨ (Q : Int) * i < 8 := by
      rw [b_wrap _ (by omega) (by omega), b_wrap _ (by omega) (by omega), Int.neg_neg, Int.neg_neg]
      by_cases c : n1 ≤ n2
      · refine ⟨n2, by unfold mx; split <;> omega, by omega, by omega, ?_, by rw [Int.mul_comm]; exact n2c, fun i h0 h1 => Or.inr ?_⟩
        · have := Int.mul_le_mul_of_nonneg_right c (show 0 ≤ (P : Int) by omega); rw [Int.mul_comm (P : Int) n2]; omega
        · have := Int.mul_le_mul_of_nonneg_right (show i ≤ n2 - 1 by omega) (show 0 ≤ (Q : Int) by omega); rw [Int.mul_comm]; omega
      · refine ⟨n1, by unfold mx; split <;> omega, by omega, by omega, by rw [Int.mul_comm]; exact n1c, ?_, fun i h0 h1 => Or.inl ?_⟩
        · have := Int.mul_le_mul_of_nonneg_right (show n2 ≤ n1 by omega) (show 0 ≤ (Q : Int) by omega); rw [Int.mul_comm (Q : Int) n1]; omega
        · have := Int.mul_le_mul_of_nonneg_right (show i ≤ n1 - 1 by omega) (show 0 ≤ (P : Int) by omega); rw [Int.mul_comm]; omega
    obtain ⟨N, eN, N1, N2, NP, NQ, Nl⟩ := hN
    have bP := mul_bd (P : Int) N (by omega) (by omega) N1 (by omega)
    have bQ := mul_bd (Q : Int) N (by omega) (by omega) N1 (by omega)
    have S := wheels_l (P : Int) (Q : Int) N (by omega) (by omega) (by omega) (by omega) N1 N2 NP NQ Nl 120
    have R : ∃ x y c : Int, (if 120 < (P : Int) * N ∨ 120 < (Q : Int) * N then ((0 : Int), (0 : Int), (6 : Int)) else ((P : Int) * N, (Q : Int) * N, 0)) = (x, y, c) ∧ (c = 0 → x * ((G * Q : Nat) : Int) = y * ((G * P : Nat) : Int) ∧ 8 ≤ x ∧ x ≤ 120 ∧ 8 ≤ y ∧ y ≤ 120) ∧ (c = 0 ∨ c = 6) := by
      by_cases c : 120 < (P : Int) * N ∨ 120 < (Q : Int) * N
      · rw [if_pos c]; exact ⟨0, 0, 6, rfl, fun h => by omega, Or.inr rfl⟩
      · rw [if_neg c]
        refine ⟨_, _, 0, rfl, fun _ => ⟨?_, by omega, by omega, by omega, by omega⟩, Or.inl rfl⟩
        rw [Int.mul_assoc, Int.mul_comm N, ← Int.mul_assoc, hratio, Int.mul_assoc, Int.mul_comm _ N, ← Int.mul_assoc]
    obtain ⟨x, y, c, hR, hc, hc'⟩ := R
    refine ⟨x, y, c, fun k hk => ⟨?_, ?_⟩, hc, by rcases hc' with h | h <;> simp [h]⟩
    · unfold impl_WheelsFor.f
      rw [isWheel_t]; simp only [Option.bind_some]
      rw [if_pos (by simp; omega)]
      unfold impl_common.f
      rw [(hg k (by omega)).1]; simp only [Option.bind_some]
      rw [if_neg (by omega), dP, dQ, b_wrap (P : Int) (by omega) (by omega), b_wrap (Q : Int) (by omega) (by omega), f1]; simp only [Option.bind_some]
      rw [f2]; simp only [Option.bind_some]
      rw [eN, b_wrap ((P : Int) * N) (by omega) (by omega), b_wrap ((Q : Int) * N) (by omega) (by omega), ← hR]
      by_cases c1 : (P : Int) * N > 120
      · rw [if_pos c1, if_pos (Or.inl c1)]
      · rw [if_neg c1]
        by_cases c2 : (Q : Int) * N > 120
        · rw [if_pos c2, if_pos (Or.inr c2)]
        · rw [if_neg c2, if_neg (by omega)]
    · unfold spec_WheelsFor.f
      simp only [spec_l00In_t, Option.bind_some]
      rw [if_pos (by simp; omega)]
      obtain ⟨m, rfl⟩ : ∃ m, k = m + 1 := ⟨k - 1, by omega⟩
      simp only [spec_WheelsFor.j0]
      rw [if_neg (by simp; omega), (hg m (by omega)).2]; simp only [Option.bind_some]
      rw [if_neg (by omega), dP, dQ, b_wrap (P : Int) (by omega) (by omega), b_wrap (Q : Int) (by omega) (by omega), ← hR]
      exact S m 1 (by omega) (by omega) (by omega) (by omega) (fun h => by omega)
  · refine ⟨0, 0, 2, fun k hk => ⟨?_, ?_⟩, fun h => by omega, Or.inr (Or.inr h)⟩
    · unfold impl_WheelsFor.f
      rw [isWheel_t]; simp only [Option.bind_some]
      rw [if_neg (by simpa using h)]
    · unfold spec_WheelsFor.f
      simp only [spec_l00In_t, Option.bind_some]
      obtain ⟨m, rfl⟩ : ∃ m, k = m + 1 := ⟨k - 1, by omega⟩
      by_cases c : 1 ≤ a ∧ a ≤ 1000
      · rw [if_pos (by simpa using c)]
        simp only [spec_WheelsFor.j0]
        rw [if_pos (by simp; omega)]
      · rw [if_neg (by simpa using c)]
        simp only [spec_WheelsFor.j0]
        rw [if_pos trivial]

theorem FnExactWheelsFor : laws_FnExactWheelsFor.Pure := by
  intro a b _ _
  obtain ⟨x, y, c, h, _⟩ := wheels_t a b
  refine ⟨1200, ?_⟩
  unfold laws_FnExactWheelsFor.f
  rw [(h 1200 (by omega)).2]; simp only [Option.bind_some]
  rw [(h 1200 (by omega)).1]; simp

end Go.Proofs.Ytkjjmelhnbjoeaa.Pure
