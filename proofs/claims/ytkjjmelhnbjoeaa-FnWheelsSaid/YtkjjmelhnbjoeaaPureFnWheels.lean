/- The pure statement of the law FnWheels is proved: wheels that are found have the ratio, nearest ones are as near where these are within the bound, and no pair of wheels is nearer than the nearest one. No conditions beyond the statement's own. -/
import Derived.Test.YtkjjmelhnbjoeaaFFnWheelsx
namespace Go.Proofs.Ytkjjmelhnbjoeaa.Pure
open Go.RowKit Go.Proofs.Ytkjjmelhnbjoeaa.FFnWheels Go.Proofs.YtkjjmelhnbjoeaaW.PrintWords Go.Proofs.YtkjjmelhnbjoeaaW.PrintLast
set_option linter.unusedVariables false

theorem b_wrap (x : Int) (h : -9223372036854775808 ≤ x) (h' : x ≤ 9223372036854775807) : wrap64 x = x := by
  unfold wrap64; omega

theorem b_rd (l : List Int) (i : Nat) (h : i < l.length) : rd l (i : Int) = l[i] := by
  unfold rd; rw [List.getD_eq_getElem?_getD, Int.toNat_natCast, List.getElem?_eq_getElem h]; rfl

theorem b_take (l : List Int) (i : Nat) (h : i < l.length) : l.take (i + 1) = l.take i ++ [l[i]] := by
  rw [List.take_succ_eq_append_getElem h]

theorem b_set (x : List Int) (i : Nat) (v : Int) (h : i < x.length) : (x.set i v).take (i + 1) = x.take i ++ [v] := by
  have h' : i < (x.set i v).length := by rw [List.length_set]; exact h
  rw [List.take_succ_eq_append_getElem h', List.getElem_set_self, List.take_set_of_le (Nat.le_refl i)]
theorem impl_inRange_t (a b c : Int) : impl_inRange.f a b c = some (decide (b ≤ a ∧ a ≤ c)) := by
  unfold impl_inRange.f
  by_cases h : b ≤ a
  · rw [if_pos h]; simp [h]
  · rw [if_neg h]; simp [h]
theorem spec_l00In_t (a b c : Int) : spec_l00In.f a b c = some (decide (b ≤ a ∧ a ≤ c)) := by
  unfold spec_l00In.f
  by_cases h : b ≤ a
  · rw [if_pos h]; simp [h]
  · rw [if_neg h]; simp [h]

theorem gcd_l (k : Nat) : ∀ (b a : Nat), b < k → impl_common.l0 k (a : Int) (b : Int) = some ((Nat.gcd a b : Nat) : Int) ∧ spec_l04Gcd.f k (a : Int) (b : Int) = some ((Nat.gcd a b : Nat) : Int) := by
  induction k with
  | zero => intro b a hk; omega
  | succ k ih =>
    intro b a hk
    simp only [impl_common.l0, spec_l04Gcd.f]
    by_cases hb : (b : Int) = 0
    · have : b = 0 := by omega
      subst this
      rw [if_pos hb, if_pos hb]; simp
    · rw [if_neg hb, if_neg hb]
      have hm : Int.tmod (a : Int) (b : Int) = ((a % b : Nat) : Int) := (Int.ofNat_tmod a b).symm
      have hlt : a % b < b := Nat.mod_lt _ (by omega)
      have hg : Nat.gcd b (a % b) = Nat.gcd a b := by
        rw [Nat.gcd_comm a b, Nat.gcd_rec b a, Nat.gcd_comm]
      rw [hm, (ih (a % b) b (by omega)).1, (ih (a % b) b (by omega)).2, hg]
      exact ⟨rfl, rfl⟩

theorem floor8 (p : Int) (h1 : 1 ≤ p) (h2 : p ≤ 1000) : ∃ n : Int, impl_floorDiv.f (-8) p = some (-n) ∧ 1 ≤ n ∧ n ≤ 8 ∧ 8 ≤ n * p ∧ (n - 1) * p < 8 := by
  by_cases h8 : 8 < p
  · refine ⟨1, ?_, by omega, by omega, by omega, by omega⟩
    unfold impl_floorDiv.f
    have hd : Int.tdiv (-8) p = 0 := by rw [Int.neg_tdiv, Int.tdiv_eq_zero_of_lt (by omega) h8]; rfl
    have hm : Int.tmod (-8) p = -8 := by rw [Int.neg_tmod, Int.tmod_eq_of_lt (by omega) h8]
    rw [if_neg (by omega), hm, if_pos (by omega), hd, b_wrap 0 (by omega) (by omega), b_wrap _ (by omega) (by omega)]; rfl
  · rcases (by omega : p = 1 ∨ p = 2 ∨ p = 3 ∨ p = 4 ∨ p = 5 ∨ p = 6 ∨ p = 7 ∨ p = 8) with h | h | h | h | h | h | h | h <;> subst h
    · exact ⟨8, by unfold impl_floorDiv.f wrap64; simp, by omega, by omega, by omega, by omega⟩
    · exact ⟨4, by unfold impl_floorDiv.f wrap64; simp, by omega, by omega, by omega, by omega⟩
    · exact ⟨3, by unfold impl_floorDiv.f wrap64; simp, by omega, by omega, by omega, by omega⟩
    · exact ⟨2, by unfold impl_floorDiv.f wrap64; simp, by omega, by omega, by omega, by omega⟩
    · exact ⟨2, by unfold impl_floorDiv.f wrap64; simp, by omega, by omega, by omega, by omega⟩
    · exact ⟨2, by unfold impl_floorDiv.f wrap64; simp, by omega, by omega, by omega, by omega⟩
    · exact ⟨2, by unfold impl_floorDiv.f wrap64; simp, by omega, by omega, by omega, by omega⟩
    · exact ⟨1, by unfold impl_floorDiv.f wrap64; simp, by omega, by omega, by omega, by omega⟩

theorem mul_bd (p i : Int) (h1 : 1 ≤ p) (h2 : p ≤ 1000) (h3 : 1 ≤ i) (h4 : i ≤ 121) : 0 ≤ p * i ∧ p * i ≤ 121000 :=
  ⟨Int.mul_nonneg (by omega) (by omega), Int.le_trans (Int.mul_le_mul h2 h4 (by omega) (by omega)) (by omega)⟩

theorem wheels_l (p q N : Int) (hp : 1 ≤ p) (hp' : p ≤ 1000) (hq : 1 ≤ q) (hq' : q ≤ 1000) (hN : 1 ≤ N) (hN' : N ≤ 8) (hP : 8 ≤ p * N) (hQ : 8 ≤ q * N) (hlow : ∀ i : Int, 1 ≤ i → i < N → p * i < 8 ∨ q * i < 8)
    (d : Nat) : ∀ (k : Nat) (i : Int), 1 ≤ i → i ≤ 121 → 121 - i = d → d < k → (N < i → 120 < p * N ∨ 120 < q * N) →
    spec_WheelsFor.l0 k p q i = some (if 120 < p * N ∨ 120 < q * N then (0, 0, 6) else (p * N, q * N, 0)) := by
  induction d with
  | zero =>
    intro k i h1 h2 hd hk hi
    obtain ⟨k, rfl⟩ : ∃ m, k = m + 1 := ⟨k - 1, by omega⟩
    simp only [spec_WheelsFor.l0]
    rw [if_neg (by omega), if_pos (hi (by omega))]
  | succ d ih =>
    intro k i h1 h2 hd hk hi
    obtain ⟨k, rfl⟩ : ∃ m, k = m + 1 := ⟨k - 1, by omega⟩
    have bp := mul_bd p i hp hp' h1 h2
    have bq := mul_bd q i hq hq' h1 h2
    have nxt : (N < i + 1 → 120 < p * N ∨ 120 < q * N) → spec_WheelsFor.l0 k p q (wrap64 (i + 1)) = some (if 120 < p * N ∨ 120 < q * N then (0, 0, 6) else (p * N, q * N, 0)) := by
      intro h
      rw [b_wrap _ (by omega) (by omega)]
      exact ih k (i + 1) (by omega) (by omega) (by omega) (by omega) h
    simp only [spec_WheelsFor.l0]
    rw [if_pos (by omega), b_wrap (p * i) (by omega) (by omega), b_wrap (q * i) (by omega) (by omega)]
    simp only [spec_l00In_t, Option.bind_some]
    by_cases c1 : 8 ≤ p * i ∧ p * i ≤ 120
    · rw [if_pos (by simpa using c1)]
      by_cases c2 : 8 ≤ q * i ∧ q * i ≤ 120
      · rw [if_pos (by simpa using c2)]
        have hNi : N = i := by
          by_cases c3 : i < N
          · have := hlow i h1 c3; omega
          · by_cases c4 : N < i
            · have m1 : p * N ≤ p * i := Int.mul_le_mul_of_nonneg_left (by omega) (by omega)
              have m2 : q * N ≤ q * i := Int.mul_le_mul_of_nonneg_left (by omega) (by omega)
              have := hi c4; omega
            · omega
        subst hNi
        rw [if_neg (by omega)]
      · rw [if_neg (by simpa using c2)]
        refine nxt (fun h => ?_)
        by_cases c4 : N < i
        · exact hi c4
        · have : N = i := by omega
          subst this; omega
    · rw [if_neg (by simpa using c1)]
      refine nxt (fun h => ?_)
      by_cases c4 : N < i
      · exact hi c4
      · have : N = i := by omega
        subst this; omega

theorem isWheel_t (a b : Int) : impl_isWheel.f a b = some (decide ((1 ≤ a ∧ a ≤ 1000) ∧ 1 ≤ b ∧ b ≤ 1000)) := by
  unfold impl_isWheel.f
  simp only [impl_inRange_t, Option.bind_some]
  by_cases h : 1 ≤ a ∧ a ≤ 1000
  · rw [if_pos (by simpa using h)]; simp [h]
  · rw [if_neg (by simpa using h)]; simp [h]

/-- Both find the same wheels, and these have the ratio. -/
theorem wheels_t (a b : Int) : ∃ x y c : Int, (∀ k, 1200 ≤ k → impl_WheelsFor.f k a b = some (x, y, c) ∧ spec_WheelsFor.f k a b = some (x, y, c)) ∧
    (c = 0 → x * b = y * a ∧ 8 ≤ x ∧ x ≤ 120 ∧ 8 ≤ y ∧ y ≤ 120) ∧ (c = 0 ∨ c = 6 ∨ ¬ ((1 ≤ a ∧ a ≤ 1000) ∧ 1 ≤ b ∧ b ≤ 1000)) := by
  by_cases h : (1 ≤ a ∧ a ≤ 1000) ∧ 1 ≤ b ∧ b ≤ 1000
  · obtain ⟨⟨ha, ha'⟩, hb, hb'⟩ := h
    obtain ⟨A, rfl⟩ := Int.eq_ofNat_of_zero_le (show 0 ≤ a by omega)
    obtain ⟨B, rfl⟩ := Int.eq_ofNat_of_zero_le (show 0 ≤ b by omega)
    have hG : 0 < Nat.gcd A B := Nat.gcd_pos_of_pos_left _ (by omega)
    have hGA : Nat.gcd A B ∣ A := Nat.gcd_dvd_left A B
    have hGB : Nat.gcd A B ∣ B := Nat.gcd_dvd_right A B
    have hg := fun k (hk : 1001 ≤ k) => gcd_l k B A (by omega)
    generalize Nat.gcd A B = G at hG hGA hGB hg
    obtain ⟨P, rfl⟩ := hGA
    obtain ⟨Q, rfl⟩ := hGB
    have dP : Int.tdiv ((G * P : Nat) : Int) (G : Int) = (P : Int) := by
      rw [← Int.ofNat_tdiv, Nat.mul_div_cancel_left _ hG]
    have dQ : Int.tdiv ((G * Q : Nat) : Int) (G : Int) = (Q : Int) := by
      rw [← Int.ofNat_tdiv, Nat.mul_div_cancel_left _ hG]
    have hP1 : 0 < P := Nat.pos_of_ne_zero (fun e => by subst e; simp at ha)
    have hQ1 : 0 < Q := Nat.pos_of_ne_zero (fun e => by subst e; simp at hb)
    have hP2 : P ≤ G * P := Nat.le_mul_of_pos_left P hG
    have hQ2 : Q ≤ G * Q := Nat.le_mul_of_pos_left Q hG
    have hratio : (P : Int) * ((G * Q : Nat) : Int) = (Q : Int) * ((G * P : Nat) : Int) := by
      rw [Int.natCast_mul, Int.natCast_mul, ← Int.mul_assoc, ← Int.mul_assoc, Int.mul_comm (P : Int) G, Int.mul_comm (Q : Int) G, Int.mul_assoc, Int.mul_assoc, Int.mul_comm (P : Int) Q]
    obtain ⟨n1, f1, n1a, n1b, n1c, n1d⟩ := floor8 (P : Int) (by omega) (by omega)
    obtain ⟨n2, f2, n2a, n2b, n2c, n2d⟩ := floor8 (Q : Int) (by omega) (by omega)
    have hN : ∃ N : Int, mx (wrap64 (- -n1)) (wrap64 (- -n2)) = N ∧ 1 ≤ N ∧ N ≤ 8 ∧ 8 ≤ (P : Int) * N ∧ 8 ≤ (Q : Int) * N ∧ ∀ i : Int, 1 ≤ i → i < N → (P : Int) * i < 8 ∨ (Q : Int) * i < 8 := by
      rw [b_wrap _ (by omega) (by omega), b_wrap _ (by omega) (by omega), Int.neg_neg, Int.neg_neg]
      by_cases c : n1 ≤ n2
      · refine ⟨n2, by unfold mx; split <;> omega, by omega, by omega, ?_, by rw [Int.mul_comm]; exact n2c, fun i h0 h1 => Or.inr ?_⟩
        · have := Int.mul_le_mul_of_nonneg_right c (show 0 ≤ (P : Int) by omega); rw [Int.mul_comm (P : Int) n2]; omega
        · have := Int.mul_le_mul_of_nonneg_right (show i ≤ n2 - 1 by omega) (show 0 ≤ (Q : Int) by omega); rw [Int.mul_comm]; omega
      · refine ⟨n1, by unfold mx; split <;> omega, by omega, by omega, by rw [Int.mul_comm]; exact n1c, ?_, fun i h0 h1 => Or.inl ?_⟩
        · have := Int.mul_le_mul_of_nonneg_right (show n2 ≤ n1 by omega) (show 0 ≤ (Q : Int) by omega); rw [Int.mul_comm (Q : Int) n1]; omega
        · have := Int.mul_le_mul_of_nonneg_right (show i ≤ n1 - 1 by omega) (show 0 ≤ (P : Int) by omega); rw [Int.mul_comm]; omega
    obtain ⟨N, eN, N1, N2, NP, NQ, Nl⟩ := hN
    have bP := mul_bd (P : Int) N (by omega) (by omega) N1 (by omega)
    have bQ := mul_bd (Q : Int) N (by omega) (by omega) N1 (by omega)
    have S := wheels_l (P : Int) (Q : Int) N (by omega) (by omega) (by omega) (by omega) N1 N2 NP NQ Nl 120
    have R : ∃ x y c : Int, (if 120 < (P : Int) * N ∨ 120 < (Q : Int) * N then ((0 : Int), (0 : Int), (6 : Int)) else ((P : Int) * N, (Q : Int) * N, 0)) = (x, y, c) ∧ (c = 0 → x * ((G * Q : Nat) : Int) = y * ((G * P : Nat) : Int) ∧ 8 ≤ x ∧ x ≤ 120 ∧ 8 ≤ y ∧ y ≤ 120) ∧ (c = 0 ∨ c = 6) := by
      by_cases c : 120 < (P : Int) * N ∨ 120 < (Q : Int) * N
      · rw [if_pos c]; exact ⟨0, 0, 6, rfl, fun h => by omega, Or.inr rfl⟩
      · rw [if_neg c]
        refine ⟨_, _, 0, rfl, fun _ => ⟨?_, by omega, by omega, by omega, by omega⟩, Or.inl rfl⟩
        rw [Int.mul_assoc, Int.mul_comm N, ← Int.mul_assoc, hratio, Int.mul_assoc, Int.mul_comm _ N, ← Int.mul_assoc]
    obtain ⟨x, y, c, hR, hc, hc'⟩ := R
    refine ⟨x, y, c, fun k hk => ⟨?_, ?_⟩, hc, by rcases hc' with h | h <;> simp [h]⟩
    · unfold impl_WheelsFor.f
      rw [isWheel_t]; simp only [Option.bind_some]
      rw [if_pos (by simp; omega)]
      unfold impl_common.f
      rw [(hg k (by omega)).1]; simp only [Option.bind_some]
      rw [if_neg (by omega), dP, dQ, b_wrap (P : Int) (by omega) (by omega), b_wrap (Q : Int) (by omega) (by omega), f1]; simp only [Option.bind_some]
      rw [f2]; simp only [Option.bind_some]
      rw [eN, b_wrap ((P : Int) * N) (by omega) (by omega), b_wrap ((Q : Int) * N) (by omega) (by omega), ← hR]
      by_cases c1 : (P : Int) * N > 120
      · rw [if_pos c1, if_pos (Or.inl c1)]
      · rw [if_neg c1]
        by_cases c2 : (Q : Int) * N > 120
        · rw [if_pos c2, if_pos (Or.inr c2)]
        · rw [if_neg c2, if_neg (by omega)]
    · unfold spec_WheelsFor.f
      simp only [spec_l00In_t, Option.bind_some]
      rw [if_pos (by simp; omega)]
      obtain ⟨m, rfl⟩ : ∃ m, k = m + 1 := ⟨k - 1, by omega⟩
      simp only [spec_WheelsFor.j0]
      rw [if_neg (by simp; omega), (hg m (by omega)).2]; simp only [Option.bind_some]
      rw [if_neg (by omega), dP, dQ, b_wrap (P : Int) (by omega) (by omega), b_wrap (Q : Int) (by omega) (by omega), ← hR]
      exact S m 1 (by omega) (by omega) (by omega) (by omega) (fun h => by omega)
  · refine ⟨0, 0, 2, fun k hk => ⟨?_, ?_⟩, fun h => by omega, Or.inr (Or.inr h)⟩
    · unfold impl_WheelsFor.f
      rw [isWheel_t]; simp only [Option.bind_some]
      rw [if_neg (by simpa using h)]
    · unfold spec_WheelsFor.f
      simp only [spec_l00In_t, Option.bind_some]
      obtain ⟨m, rfl⟩ : ∃ m, k = m + 1 := ⟨k - 1, by omega⟩
      by_cases c : 1 ≤ a ∧ a ≤ 1000
      · rw [if_pos (by simpa using c)]
        simp only [spec_WheelsFor.j0]
        rw [if_pos (by simp; omega)]
      · rw [if_neg (by simpa using c)]
        simp only [spec_WheelsFor.j0]
        rw [if_pos trivial]

/-- How far a pair of wheels is off. -/
def off (num den a b : Int) : Int := if a * den - num * b < 0 then -(a * den - num * b) else a * den - num * b

/-- The pair a, b is not worse than c, d: by the ratio, then by the sum, then by the first wheel. -/
def K (num den a b c d : Int) : Prop :=
  off num den a b * d < off num den c d * b ∨ (off num den a b * d = off num den c d * b ∧ (a + b < c + d ∨ (a + b = c + d ∧ a ≤ c)))

theorem cross (x y z a b c : Int) (ha : 0 < a) (hb : 0 < b) (hc : 0 < c) (h1 : x * b ≤ y * a) (h2 : y * c ≤ z * b) :
    x * c ≤ z * a ∧ (x * b < y * a ∨ y * c < z * b → x * c < z * a) := by
  have e1 : x * c * b = x * b * c := by rw [Int.mul_assoc, Int.mul_comm c b, ← Int.mul_assoc]
  have e2 : y * a * c = y * c * a := by rw [Int.mul_assoc, Int.mul_comm a c, ← Int.mul_assoc]
  have e3 : z * b * a = z * a * b := by rw [Int.mul_assoc, Int.mul_comm b a, ← Int.mul_assoc]
  have m1 : x * b * c ≤ y * a * c := Int.mul_le_mul_of_nonneg_right h1 (by omega)
  have m2 : y * c * a ≤ z * b * a := Int.mul_le_mul_of_nonneg_right h2 (by omega)
  have g1 : x * c * b ≤ z * a * b := by omega
  have g2 : x * c * b < z * a * b → x * c < z * a := fun h => Int.lt_of_mul_lt_mul_right h (by omega)
  refine ⟨Int.le_of_mul_le_mul_right g1 hb, fun h => g2 ?_⟩
  rcases h with h | h
  · have := Int.mul_lt_mul_of_pos_right h hc; omega
  · have := Int.mul_lt_mul_of_pos_right h ha; omega

theorem K_trans {num den a b c d e f : Int} (hb : 0 < b) (hd : 0 < d) (hf : 0 < f) (h1 : K num den a b c d) (h2 : K num den c d e f) : K num den a b e f := by
  unfold K at *
  have := cross (off num den a b) (off num den c d) (off num den e f) b d f hb hd hf (by omega) (by omega)
  omega

theorem K_anti {num den a b c d : Int} (h1 : K num den a b c d) (h2 : K num den c d a b) : a = c ∧ b = d := by
  unfold K at *; omega

theorem off_bd (num den a b : Int) (h1 : 1 ≤ num) (h2 : num ≤ 1000) (h3 : 1 ≤ den) (h4 : den ≤ 1000) (h5 : 8 ≤ a) (h6 : a ≤ 240) (h7 : 8 ≤ b) (h8 : b ≤ 240) :
    0 ≤ a * den ∧ a * den ≤ 240000 ∧ 0 ≤ num * b ∧ num * b ≤ 240000 ∧ 0 ≤ off num den a b ∧ off num den a b ≤ 240000 := by
  have p1 : 0 ≤ a * den := Int.mul_nonneg (by omega) (by omega)
  have p2 : a * den ≤ 240 * 1000 := Int.mul_le_mul h6 h4 (by omega) (by omega)
  have p3 : 0 ≤ num * b := Int.mul_nonneg (by omega) (by omega)
  have p4 : num * b ≤ 1000 * 240 := Int.mul_le_mul h2 h8 (by omega) (by omega)
  unfold off
  refine ⟨p1, by omega, p3, by omega, ?_, ?_⟩ <;> split <;> omega

theorem offb (x b : Int) (h1 : 0 ≤ x) (h2 : x ≤ 240000) (h3 : 0 ≤ b) (h4 : b ≤ 240) : 0 ≤ x * b ∧ x * b ≤ 57600000 :=
  ⟨Int.mul_nonneg h1 h3, Int.le_trans (Int.mul_le_mul h2 h4 h3 (by omega)) (by omega)⟩

theorem cmp_t (a b : Int) : cmp_Compare_int64.f a b = some (if a < b then -1 else if a > b then 1 else 0) := by
  unfold cmp_Compare_int64.f cmp_isNaN_int64.f
  simp
  split
  · rfl
  · split <;> rfl

theorem or_t (x y z : Int) (k : Nat) (hk : 5 ≤ k) : cmp_Or_int.f k [x, y, z] = some (if x = 0 then (if y = 0 then z else y) else x) := by
  obtain ⟨k, rfl⟩ : ∃ m, k = m + 5 := ⟨k - 5, by omega⟩
  unfold cmp_Or_int.f
  have w1 : wrap64 (0 + 1) = 1 := by rw [b_wrap _ (by omega) (by omega)]; rfl
  have w2 : wrap64 (1 + 1) = 2 := by rw [b_wrap _ (by omega) (by omega)]; rfl
  have w3 : wrap64 (2 + 1) = 3 := by rw [b_wrap _ (by omega) (by omega)]; rfl
  have r0 : rd [x, y, z] 0 = x := rfl
  have r1 : rd [x, y, z] 1 = y := rfl
  have r2 : rd [x, y, z] 2 = z := rfl
  have len : (([x, y, z] : List Int).length : Int) = 3 := rfl
  simp only [cmp_Or_int.l0, len, w1, w2, w3, r0, r1, r2]
  by_cases hx : x = 0 <;> by_cases hy : y = 0 <;> by_cases hz : z = 0 <;> simp [hx, hy, hz]

theorem compare_t (num den a b c d : Int) (k : Nat) (hk : 5 ≤ k) (h1 : 1 ≤ num) (h2 : num ≤ 1000) (h3 : 1 ≤ den) (h4 : den ≤ 1000) (h5 : 8 ≤ a) (h6 : a ≤ 120) (h7 : 8 ≤ b) (h8 : b ≤ 120) (h9 : 8 ≤ c) (h10 : c ≤ 120) (h11 : 8 ≤ d) (h12 : d ≤ 120) :
    ∃ v, impl_comparePairs.f k a b (off num den a b) c d (off num den c d) = some v ∧ (v < 0 → K num den a b c d) ∧ (¬ v < 0 → K num den c d a b) := by
  have o1 := off_bd num den a b h1 h2 h3 h4 h5 (by omega) h7 (by omega)
  have o2 := off_bd num den c d h1 h2 h3 h4 h9 (by omega) h11 (by omega)
  have q1 := offb (off num den a b) d (by omega) (by omega) (by omega) (by omega)
  have q2 := offb (off num den c d) b (by omega) (by omega) (by omega) (by omega)
  unfold impl_comparePairs.f
  simp only [cmp_t, Option.bind_some, or_t _ _ _ k hk]
  rw [b_wrap (_ * d) (by omega) (by omega), b_wrap (_ * b) (by omega) (by omega), b_wrap (a + b) (by omega) (by omega), b_wrap (c + d) (by omega) (by omega)]
  refine ⟨_, rfl, ?_, ?_⟩
  · intro h; unfold K; revert h; (repeat' split) <;> omega
  · intro h; unfold K; revert h; (repeat' split) <;> omega

/-- A round's test of impl: the size of the difference. -/
theorem abs_t (num den a b : Int) (h1 : 1 ≤ num) (h2 : num ≤ 1000) (h3 : 1 ≤ den) (h4 : den ≤ 1000) (h5 : 8 ≤ a) (h6 : a ≤ 240) (h7 : 8 ≤ b) (h8 : b ≤ 240) :
    impl_abs.f (wrap64 ((wrap64 (a * den)) - (wrap64 (num * b)))) = some (off num den a b) ∧ spec_l01Size.f (wrap64 ((wrap64 (a * den)) - (wrap64 (num * b)))) = some (off num den a b) := by
  have o1 := off_bd num den a b h1 h2 h3 h4 h5 h6 h7 h8
  rw [b_wrap (a * den) (by omega) (by omega), b_wrap (num * b) (by omega) (by omega), b_wrap (a * den - num * b) (by omega) (by omega)]
  unfold impl_abs.f spec_l01Size.f off
  rw [b_wrap (-(a * den - num * b)) (by omega) (by omega)]
  constructor
  · unfold mx; congr 1; split <;> split <;> omega
  · split <;> rfl

/-- The best one so far, over the pairs of which P speaks. -/
def Best (num den most a b : Int) (P : Int → Int → Prop) : Prop :=
  8 ≤ a ∧ a ≤ most ∧ 8 ≤ b ∧ b ≤ most ∧ ∀ c d, 8 ≤ c → c ≤ most → 8 ≤ d → d ≤ most → P c d → K num den a b c d

def Answer (num den most : Int) (r : Int × Int × Int) : Prop := r.2.2 = 0 ∧ Best num den most r.1 r.2.1 fun _ _ => True

section loops
variable (num den most : Int) (h1 : 1 ≤ num) (h2 : num ≤ 1000) (h3 : 1 ≤ den) (h4 : den ≤ 1000) (h5 : 8 ≤ most) (h6 : most ≤ 120)
include h1 h2 h3 h4 h5 h6

theorem impl_l (A : Nat) : (∀ a x y z : Int, 8 ≤ a → a ≤ most + 1 → most + 1 - a = A → (x = 0 ∧ a = 8 ∨ x ≠ 0 ∧ 8 < a ∧ z = off num den x y ∧ Best num den most x y fun c d => c < a) →
    ∃ r, Answer num den most r ∧ Ev (fun k => impl_NearestWheels.l0 k num den most a x y z) r) := by
  induction A with
  | zero =>
    intro a x y z ha ha' hA h
    refine ⟨(x, y, 0), ⟨rfl, ?_⟩, ⟨1, fun k hk => ?_⟩⟩
    · rcases h with h | h
      · omega
      · obtain ⟨_, _, _, q1, q2, q3, q4, q5⟩ := h
        exact ⟨q1, q2, q3, q4, fun c d c1 c2 d1 d2 _ => q5 c d c1 c2 d1 d2 (by omega)⟩
    · obtain ⟨k, rfl⟩ : ∃ m, k = m + 1 := ⟨k - 1, by omega⟩
      simp only [impl_NearestWheels.l0]; rw [if_neg (by omega)]
  | succ A ihA =>
    intro a x y z ha ha' hA h
    have inner : ∀ (B : Nat) (b x y z : Int), 8 ≤ b → b ≤ most + 1 → most + 1 - b = B → (x = 0 ∧ a = 8 ∧ b = 8 ∨ x ≠ 0 ∧ (8 < a ∨ 8 < b) ∧ z = off num den x y ∧ Best num den most x y fun c d => c < a ∨ c = a ∧ d < b) →
        ∃ r, Answer num den most r ∧ Ev (fun k => impl_NearestWheels.l1 k num den most a b x y z) r := by
      intro B
      induction B with
      | zero =>
        intro b x y z hb hb' hB h
        have hx : x ≠ 0 ∧ 8 < a + 1 ∧ z = off num den x y ∧ Best num den most x y fun c d => c < a + 1 := by
          rcases h with h | h
          · omega
          · obtain ⟨q0, _, qz, q1, q2, q3, q4, q5⟩ := h
            exact ⟨q0, by omega, qz, q1, q2, q3, q4, fun c d c1 c2 d1 d2 hc => q5 c d c1 c2 d1 d2 (by omega)⟩
        obtain ⟨r, hr, ⟨N, hN⟩⟩ := ihA (a + 1) x y z (by omega) (by omega) (by omega) (Or.inr hx)
        refine ⟨r, hr, ⟨N + 1, fun k hk => ?_⟩⟩
        obtain ⟨k, rfl⟩ : ∃ m, k = m + 1 := ⟨k - 1, by omega⟩
        simp only [impl_NearestWheels.l1]; rw [if_neg (by omega), b_wrap _ (by omega) (by omega)]
        exact hN k (by omega)
      | succ B ihB =>
        intro b x y z hb hb' hB h
        have hab := (abs_t num den a b h1 h2 h3 h4 ha (by omega) hb (by omega)).1
        have take : Best num den most a b (fun c d => c < a ∨ c = a ∧ d < b + 1) → ∃ r, Answer num den most r ∧ Ev (fun k => impl_NearestWheels.l1 k num den most a (b + 1) a b (off num den a b)) r :=
          fun hb1 => ihB (b + 1) a b (off num den a b) (by omega) (by omega) (by omega) (Or.inr ⟨by omega, by omega, rfl, hb1⟩)
        by_cases hx : x = 0
        · obtain ⟨r, hr, ⟨N, hN⟩⟩ := take ⟨ha, by omega, hb, by omega, fun c d c1 c2 d1 d2 hc => by
            rcases h with h | h
            · have e1 : c = a := by omega
              have e2 : d = b := by omega
              subst e1 e2; unfold K; omega
            · exact absurd hx h.1⟩
          refine ⟨r, hr, ⟨N + 1, fun k hk => ?_⟩⟩
          obtain ⟨k, rfl⟩ : ∃ m, k = m + 1 := ⟨k - 1, by omega⟩
          simp only [impl_NearestWheels.l1]; rw [if_pos (by omega), hab]; simp only [Option.bind_some]
          rw [if_pos hx, b_wrap _ (by omega) (by omega)]
          exact hN k (by omega)
        · obtain ⟨_, qab, qz, q1, q2, q3, q4, q5⟩ := h.resolve_left (fun h => hx h.1)
          subst qz
          by_cases hlt : ∀ k, 5 ≤ k → ∃ v, impl_comparePairs.f k a b (off num den a b) x y (off num den x y) = some v ∧ v < 0
          · obtain ⟨v, hv, hv1, _⟩ := compare_t num den a b x y 5 (by omega) h1 h2 h3 h4 ha (by omega) hb (by omega) q1 (by omega) q3 (by omega)
            obtain ⟨v', hv', hv0⟩ := hlt 5 (by omega)
            rw [hv] at hv'; cases hv'
            have hK := hv1 hv0
            obtain ⟨r, hr, ⟨N, hN⟩⟩ := take ⟨ha, by omega, hb, by omega, fun c d c1 c2 d1 d2 hc => by
              by_cases e : c = a ∧ d = b
              · obtain ⟨rfl, rfl⟩ := e; unfold K; omega
              · exact K_trans (by omega) (by omega) (by omega) hK (q5 c d c1 c2 d1 d2 (by omega))⟩
            refine ⟨r, hr, ⟨N + 6, fun k hk => ?_⟩⟩
            obtain ⟨k, rfl⟩ : ∃ m, k = m + 1 := ⟨k - 1, by omega⟩
            obtain ⟨u, hu, hu0⟩ := hlt k (by omega)
            simp only [impl_NearestWheels.l1]; rw [if_pos (by omega), hab]; simp only [Option.bind_some]
            rw [if_neg hx, hu]; simp only [Option.bind_some]
            rw [if_pos hu0, b_wrap _ (by omega) (by omega)]
            exact hN k (by omega)
          · have hlt' : ∃ k, 5 ≤ k ∧ ∀ v, impl_comparePairs.f k a b (off num den a b) x y (off num den x y) = some v → ¬ v < 0 := by
              false_or_by_contra
              rename_i hc
              exact hlt (fun k hk => by
                false_or_by_contra
                rename_i hd
                exact hc ⟨k, hk, fun v hv hv0 => hd ⟨v, hv, hv0⟩⟩)
            obtain ⟨k0, hk0, hk1⟩ := hlt'
            obtain ⟨v, hv, _, hv2⟩ := compare_t num den a b x y k0 hk0 h1 h2 h3 h4 ha (by omega) hb (by omega) q1 (by omega) q3 (by omega)
            have hv0 := hk1 v hv
            have hK := hv2 hv0
            obtain ⟨r, hr, ⟨N, hN⟩⟩ := ihB (b + 1) x y (off num den x y) (by omega) (by omega) (by omega) (Or.inr ⟨hx, by omega, rfl, q1, q2, q3, q4, fun c d c1 c2 d1 d2 hc => by
              by_cases e : c = a ∧ d = b
              · obtain ⟨rfl, rfl⟩ := e; exact hK
              · exact q5 c d c1 c2 d1 d2 (by omega)⟩)
            refine ⟨r, hr, ⟨N + k0 + 1, fun k hk => ?_⟩⟩
            obtain ⟨k, rfl⟩ : ∃ m, k = m + 1 := ⟨k - 1, by omega⟩
            have hu : impl_comparePairs.f k a b (off num den a b) x y (off num den x y) = some v := at_rounds (impl_comparePairs.mono _ _ _ _ _ _) (show k0 ≤ k by omega) hv
            simp only [impl_NearestWheels.l1]; rw [if_pos (by omega), hab]; simp only [Option.bind_some]
            rw [if_neg hx, hu]; simp only [Option.bind_some]
            rw [if_neg hv0, b_wrap _ (by omega) (by omega)]
            exact hN k (by omega)
    have h' : x = 0 ∧ a = 8 ∧ (8 : Int) = 8 ∨ x ≠ 0 ∧ (8 < a ∨ (8 : Int) < 8) ∧ z = off num den x y ∧ Best num den most x y fun c d => c < a ∨ c = a ∧ d < 8 := by
      rcases h with h | h
      · exact Or.inl ⟨h.1, h.2, rfl⟩
      · obtain ⟨q0, qa, qz, q1, q2, q3, q4, q5⟩ := h
        exact Or.inr ⟨q0, Or.inl qa, qz, q1, q2, q3, q4, fun c d c1 c2 d1 d2 hc => q5 c d c1 c2 d1 d2 (by omega)⟩
    obtain ⟨r, hr, ⟨N, hN⟩⟩ := inner (most + 1 - 8).toNat 8 x y z (by omega) (by omega) (by omega) h'
    refine ⟨r, hr, ⟨N + 1, fun k hk => ?_⟩⟩
    obtain ⟨k, rfl⟩ : ∃ m, k = m + 1 := ⟨k - 1, by omega⟩
    simp only [impl_NearestWheels.l0]; rw [if_pos (by omega)]
    exact hN k (by omega)

theorem spec_l (A : Nat) : (∀ s x y : Int, 16 ≤ s → s ≤ 2 * most + 1 → 2 * most + 1 - s = A → (y = 0 ∧ s = 16 ∨ y ≠ 0 ∧ 16 < s ∧ x + y < s ∧ Best num den most x y fun c d => c + d < s) →
    ∃ r, Answer num den most r ∧ Ev (fun k => spec_NearestWheels.l0 k num den most x y s) r) := by
  induction A with
  | zero =>
    intro s x y ha ha' hA h
    refine ⟨(x, y, 0), ⟨rfl, ?_⟩, ⟨1, fun k hk => ?_⟩⟩
    · rcases h with h | h
      · omega
      · obtain ⟨_, _, _, q1, q2, q3, q4, q5⟩ := h
        exact ⟨q1, q2, q3, q4, fun c d c1 c2 d1 d2 _ => q5 c d c1 c2 d1 d2 (by omega)⟩
    · obtain ⟨k, rfl⟩ : ∃ m, k = m + 1 := ⟨k - 1, by omega⟩
      simp only [spec_NearestWheels.l0]; rw [b_wrap _ (by omega) (by omega), if_neg (by omega)]
  | succ A ihA =>
    intro s x y ha ha' hA h
    have inner : ∀ (B : Nat) (a x y : Int), 8 ≤ a → a ≤ most + 1 → most + 1 - a = B → (y = 0 ∧ s = 16 ∧ a = 8 ∨ y ≠ 0 ∧ (16 < s ∨ 8 < a) ∧ (x + y < s ∨ x + y = s ∧ x < a) ∧ Best num den most x y fun c d => c + d < s ∨ c + d = s ∧ c < a) →
        ∃ r, Answer num den most r ∧ Ev (fun k => spec_NearestWheels.l1 k num den most x y s a) r := by
      intro B
      induction B with
      | zero =>
        intro a x y hb hb' hB h
        have hx : y ≠ 0 ∧ 16 < s + 1 ∧ x + y < s + 1 ∧ Best num den most x y fun c d => c + d < s + 1 := by
          rcases h with h | h
          · omega
          · obtain ⟨q0, _, qs, q1, q2, q3, q4, q5⟩ := h
            exact ⟨q0, by omega, by omega, q1, q2, q3, q4, fun c d c1 c2 d1 d2 hc => q5 c d c1 c2 d1 d2 (by omega)⟩
        obtain ⟨r, hr, ⟨N, hN⟩⟩ := ihA (s + 1) x y (by omega) (by omega) (by omega) (Or.inr hx)
        refine ⟨r, hr, ⟨N + 1, fun k hk => ?_⟩⟩
        obtain ⟨k, rfl⟩ : ∃ m, k = m + 1 := ⟨k - 1, by omega⟩
        simp only [spec_NearestWheels.l1]; rw [if_neg (by omega), b_wrap _ (by omega) (by omega)]
        exact hN k (by omega)
      | succ B ihB =>
        intro a x y hb hb' hB h
        by_cases hin : 8 ≤ s - a ∧ s - a ≤ most
        · have hab := (abs_t num den a (s - a) h1 h2 h3 h4 hb (by omega) hin.1 (by omega)).2
          have take : Best num den most a (s - a) (fun c d => c + d < s ∨ c + d = s ∧ c < a + 1) → ∃ r, Answer num den most r ∧ Ev (fun k => spec_NearestWheels.l1 k num den most a (s - a) s (a + 1)) r :=
            fun hb1 => ihB (a + 1) a (s - a) (by omega) (by omega) (by omega) (Or.inr ⟨by omega, by omega, by omega, hb1⟩)
          by_cases hx : y = 0
          · obtain ⟨r, hr, ⟨N, hN⟩⟩ := take ⟨hb, by omega, hin.1, hin.2, fun c d c1 c2 d1 d2 hc => by
              rcases h with h | h
              · have e1 : c = a := by omega
                have e2 : d = s - a := by omega
                subst e1 e2; unfold K; omega
              · exact absurd hx h.1⟩
            refine ⟨r, hr, ⟨N + 1, fun k hk => ?_⟩⟩
            obtain ⟨k, rfl⟩ : ∃ m, k = m + 1 := ⟨k - 1, by omega⟩
            simp only [spec_NearestWheels.l1]; rw [if_pos (by omega), b_wrap (s - a) (by omega) (by omega), spec_l00In_t]; simp only [Option.bind_some]
            rw [if_pos (by simpa using hin), if_pos hx, b_wrap _ (by omega) (by omega)]
            exact hN k (by omega)
          · obtain ⟨_, _, qs, q1, q2, q3, q4, q5⟩ := h.resolve_left (fun h => hx h.1)
            have hxy := (abs_t num den x y h1 h2 h3 h4 q1 (by omega) q3 (by omega)).2
            have o1 := off_bd num den a (s - a) h1 h2 h3 h4 hb (by omega) hin.1 (by omega)
            have o2 := off_bd num den x y h1 h2 h3 h4 q1 (by omega) q3 (by omega)
            have p1 := offb (off num den a (s - a)) y (by omega) (by omega) (by omega) (by omega)
            have p2 := offb (off num den x y) (s - a) (by omega) (by omega) (by omega) (by omega)
            by_cases hlt : off num den a (s - a) * y < off num den x y * (s - a)
            · have hK : K num den a (s - a) x y := Or.inl hlt
              obtain ⟨r, hr, ⟨N, hN⟩⟩ := take ⟨hb, by omega, hin.1, hin.2, fun c d c1 c2 d1 d2 hc => by
                by_cases e : c = a ∧ d = s - a
                · obtain ⟨rfl, rfl⟩ := e; unfold K; omega
                · exact K_trans (by omega) (by omega) (by omega) hK (q5 c d c1 c2 d1 d2 (by omega))⟩
              refine ⟨r, hr, ⟨N + 1, fun k hk => ?_⟩⟩
              obtain ⟨k, rfl⟩ : ∃ m, k = m + 1 := ⟨k - 1, by omega⟩
              simp only [spec_NearestWheels.l1]; rw [if_pos (by omega), b_wrap (s - a) (by omega) (by omega), spec_l00In_t]; simp only [Option.bind_some]
              rw [if_pos (by simpa using hin), if_neg hx, hab]; simp only [Option.bind_some]
              rw [hxy]; simp only [Option.bind_some]
              rw [b_wrap (_ * y) (by omega) (by omega), b_wrap (_ * (s - a)) (by omega) (by omega), if_pos hlt, b_wrap _ (by omega) (by omega)]
              exact hN k (by omega)
            · have hK : K num den x y a (s - a) := by unfold K; omega
              obtain ⟨r, hr, ⟨N, hN⟩⟩ := ihB (a + 1) x y (by omega) (by omega) (by omega) (Or.inr ⟨hx, by omega, by omega, q1, q2, q3, q4, fun c d c1 c2 d1 d2 hc => by
                by_cases e : c = a ∧ d = s - a
                · obtain ⟨rfl, rfl⟩ := e; exact hK
                · exact q5 c d c1 c2 d1 d2 (by omega)⟩)
              refine ⟨r, hr, ⟨N + 1, fun k hk => ?_⟩⟩
              obtain ⟨k, rfl⟩ : ∃ m, k = m + 1 := ⟨k - 1, by omega⟩
              simp only [spec_NearestWheels.l1]; rw [if_pos (by omega), b_wrap (s - a) (by omega) (by omega), spec_l00In_t]; simp only [Option.bind_some]
              rw [if_pos (by simpa using hin), if_neg hx, hab]; simp only [Option.bind_some]
              rw [hxy]; simp only [Option.bind_some]
              rw [b_wrap (_ * y) (by omega) (by omega), b_wrap (_ * (s - a)) (by omega) (by omega), if_neg hlt, b_wrap _ (by omega) (by omega)]
              exact hN k (by omega)
        · have hnx : y = 0 ∧ s = 16 ∧ a + 1 = 8 ∨ y ≠ 0 ∧ (16 < s ∨ 8 < a + 1) ∧ (x + y < s ∨ x + y = s ∧ x < a + 1) ∧ Best num den most x y fun c d => c + d < s ∨ c + d = s ∧ c < a + 1 := by
            rcases h with h | h
            · omega
            · obtain ⟨q0, qa, qs, q1, q2, q3, q4, q5⟩ := h
              exact Or.inr ⟨q0, by omega, by omega, q1, q2, q3, q4, fun c d c1 c2 d1 d2 hc => q5 c d c1 c2 d1 d2 (by omega)⟩
          obtain ⟨r, hr, ⟨N, hN⟩⟩ := ihB (a + 1) x y (by omega) (by omega) (by omega) hnx
          refine ⟨r, hr, ⟨N + 1, fun k hk => ?_⟩⟩
          obtain ⟨k, rfl⟩ : ∃ m, k = m + 1 := ⟨k - 1, by omega⟩
          simp only [spec_NearestWheels.l1]; rw [if_pos (by omega), b_wrap (s - a) (by omega) (by omega), spec_l00In_t]; simp only [Option.bind_some]
          rw [if_neg (by simpa using hin), b_wrap _ (by omega) (by omega)]
          exact hN k (by omega)
    have h' : y = 0 ∧ s = 16 ∧ (8 : Int) = 8 ∨ y ≠ 0 ∧ (16 < s ∨ (8 : Int) < 8) ∧ (x + y < s ∨ x + y = s ∧ x < 8) ∧ Best num den most x y fun c d => c + d < s ∨ c + d = s ∧ c < 8 := by
      rcases h with h | h
      · exact Or.inl ⟨h.1, h.2, rfl⟩
      · obtain ⟨q0, qa, qs, q1, q2, q3, q4, q5⟩ := h
        exact Or.inr ⟨q0, Or.inl qa, Or.inl qs, q1, q2, q3, q4, fun c d c1 c2 d1 d2 hc => q5 c d c1 c2 d1 d2 (by omega)⟩
    obtain ⟨r, hr, ⟨N, hN⟩⟩ := inner (most + 1 - 8).toNat 8 x y (by omega) (by omega) (by omega) h'
    refine ⟨r, hr, ⟨N + 1, fun k hk => ?_⟩⟩
    obtain ⟨k, rfl⟩ : ∃ m, k = m + 1 := ⟨k - 1, by omega⟩
    simp only [spec_NearestWheels.l0]; rw [b_wrap _ (by omega) (by omega), if_pos (by omega)]
    exact hN k (by omega)

end loops

theorem answer_one {num den most : Int} {r q : Int × Int × Int} (hr : Answer num den most r) (hq : Answer num den most q) : r = q := by
  obtain ⟨a, b, c⟩ := r
  obtain ⟨a', b', c'⟩ := q
  obtain ⟨rfl, q1, q2, q3, q4, q5⟩ := hr
  obtain ⟨rfl, p1, p2, p3, p4, p5⟩ := hq
  obtain ⟨e1, e2⟩ := K_anti (q5 a' b' p1 p2 p3 p4 trivial) (p5 a b q1 q2 q3 q4 trivial)
  dsimp at e1 e2
  subst e1 e2; rfl

theorem isWheel_n (a b : Int) : impl_isWheel.f a b = some (decide ((1 ≤ a ∧ a ≤ 1000) ∧ 1 ≤ b ∧ b ≤ 1000)) := by
  unfold impl_isWheel.f
  simp only [impl_inRange_t, Option.bind_some]
  by_cases h : 1 ≤ a ∧ a ≤ 1000
  · rw [if_pos (by simpa using h)]; simp [h]
  · rw [if_neg (by simpa using h)]; simp [h]

theorem nearest_t (num den most : Int) : ∃ r, Ev (fun k => impl_NearestWheels.f k num den most) r ∧ Ev (fun k => spec_NearestWheels.f k num den most) r ∧
    ((((1 ≤ num ∧ num ≤ 1000) ∧ 1 ≤ den ∧ den ≤ 1000) ∧ 8 ≤ most ∧ most ≤ 120) → Answer num den most r) := by
  by_cases h : ((1 ≤ num ∧ num ≤ 1000) ∧ 1 ≤ den ∧ den ≤ 1000) ∧ 8 ≤ most ∧ most ≤ 120
  · obtain ⟨⟨⟨a1, a2⟩, a3, a4⟩, a5, a6⟩ := h
    obtain ⟨r, hr, ⟨M, hM⟩⟩ := impl_l num den most a1 a2 a3 a4 a5 a6 (most + 1 - 8).toNat 8 0 0 0 (by omega) (by omega) (by omega) (Or.inl ⟨rfl, rfl⟩)
    obtain ⟨q, hq, ⟨L, hL⟩⟩ := spec_l num den most a1 a2 a3 a4 a5 a6 (2 * most + 1 - 16).toNat 16 0 0 (by omega) (by omega) (by omega) (Or.inl ⟨rfl, rfl⟩)
    have e := answer_one hr hq
    subst e
    refine ⟨r, ⟨M + 1, fun k hk => ?_⟩, ⟨L + 1, fun k hk => ?_⟩, fun _ => hr⟩
    · obtain ⟨k, rfl⟩ : ∃ m, k = m + 1 := ⟨k - 1, by omega⟩
      unfold impl_NearestWheels.f
      rw [isWheel_n]; simp only [Option.bind_some]
      rw [if_pos (by simp; omega), impl_inRange_t]; simp only [Option.bind_some, impl_NearestWheels.j0]
      rw [if_neg (by simp; omega)]
      exact hM k (by omega)
    · obtain ⟨k, rfl⟩ : ∃ m, k = m + 1 := ⟨k - 1, by omega⟩
      unfold spec_NearestWheels.f
      simp only [spec_l00In_t, Option.bind_some]
      rw [if_pos (by simp; omega), if_pos (by simp; omega)]; simp only [spec_NearestWheels.j0]
      rw [if_neg (by simp; omega)]
      exact hL k (by omega)
  · refine ⟨(0, 0, 2), ⟨1, fun k hk => ?_⟩, ⟨1, fun k hk => ?_⟩, fun h' => absurd h' h⟩
    · obtain ⟨k, rfl⟩ : ∃ m, k = m + 1 := ⟨k - 1, by omega⟩
      unfold impl_NearestWheels.f
      rw [isWheel_n]; simp only [Option.bind_some]
      by_cases c : (1 ≤ num ∧ num ≤ 1000) ∧ 1 ≤ den ∧ den ≤ 1000
      · rw [if_pos (by simpa using c), impl_inRange_t]; simp only [Option.bind_some, impl_NearestWheels.j0]
        rw [if_pos (by simp; omega)]
      · rw [if_neg (by simpa using c)]; simp only [impl_NearestWheels.j0, if_true]
    · obtain ⟨k, rfl⟩ : ∃ m, k = m + 1 := ⟨k - 1, by omega⟩
      unfold spec_NearestWheels.f
      simp only [spec_l00In_t, Option.bind_some, spec_NearestWheels.j0]
      by_cases c : 1 ≤ num ∧ num ≤ 1000
      · rw [if_pos (by simpa using c)]
        by_cases c' : 1 ≤ den ∧ den ≤ 1000
        · rw [if_pos (by simpa using c'), if_pos (by simp; omega)]
        · rw [if_neg (by simpa using c')]; simp
      · rw [if_neg (by simpa using c)]; simp

theorem at_t (l : List Int) (hl : l.length ≤ 3000) (hw : ∀ x ∈ l, (Lit.int .u8 x).wf = true) (a n : Int) (ha : 0 ≤ a) (hn : 1 ≤ n) (hn' : n ≤ 1000) : ∃ t, laws_a2At.f l a n = some t ∧ 0 ≤ t ∧ t < n := by
  unfold laws_a2At.f
  by_cases h : a ≥ (l.length : Int)
  · rw [if_pos h]; exact ⟨0, rfl, by omega, by omega⟩
  · obtain ⟨i, rfl⟩ := Int.eq_ofNat_of_zero_le ha
    have hv := hw (l[i]'(by omega)) (List.getElem_mem _)
    have hv' : 0 ≤ l[i]'(by omega) ∧ l[i]'(by omega) ≤ 255 := by
      simpa [Lit.wf, IntKind.min, IntKind.max, IntKind.bits, IntKind.signed] using hv
    rw [if_neg h, if_neg (by omega), if_pos (by omega), if_pos (by omega), if_neg (by omega), b_rd l i (by omega), b_wrap _ (by omega) (by omega), Int.tmod_eq_emod_of_nonneg (by omega)]
    exact ⟨_, rfl, Int.emod_nonneg _ (by omega), Int.emod_lt_of_pos _ (by omega)⟩

theorem mx_off (num den a b : Int) (h1 : 1 ≤ num) (h2 : num ≤ 1000) (h3 : 1 ≤ den) (h4 : den ≤ 1000) (h5 : 8 ≤ a) (h6 : a ≤ 120) (h7 : 8 ≤ b) (h8 : b ≤ 120) :
    mx (wrap64 ((wrap64 (a * den)) - (wrap64 (b * num)))) (wrap64 ((wrap64 (b * num)) - (wrap64 (a * den)))) = off num den a b := by
  have o1 := off_bd num den a b h1 h2 h3 h4 h5 (by omega) h7 (by omega)
  rw [Int.mul_comm b num, b_wrap (a * den) (by omega) (by omega), b_wrap (num * b) (by omega) (by omega), b_wrap (a * den - num * b) (by omega) (by omega), b_wrap (num * b - a * den) (by omega) (by omega)]
  unfold mx off; split <;> split <;> omega

theorem K_le {num den a b c d : Int} (h : K num den a b c d) : off num den a b * d ≤ off num den c d * b := by unfold K at h; omega

theorem off_zero {num den a b : Int} (h : a * den = b * num) : off num den a b = 0 := by
  rw [Int.mul_comm b num] at h
  unfold off; split <;> omega

theorem last_t (more : List Int) (hl : more.length ≤ 3000) (hw : ∀ x ∈ more, (Lit.int .u8 x).wf = true) (num den most v w : Int) (h1 : 1 ≤ num) (h2 : num ≤ 1000) (h3 : 1 ≤ den) (h4 : den ≤ 1000) (h5 : 8 ≤ most) (h6 : most ≤ 120)
    (hb : Best num den most v w fun _ _ => True) (k : Nat) : laws_FnWheels.j2 (k + 1) more num den most v w false = some true := by
  obtain ⟨q1, q2, q3, q4, q5⟩ := hb
  obtain ⟨s, hs, s0, s1⟩ := at_t more hl hw 1 (most - 7) (by omega) (by omega) (by omega)
  obtain ⟨t, ht, t0, t1⟩ := at_t more hl hw 2 (most - 7) (by omega) (by omega) (by omega)
  simp only [laws_FnWheels.j2]
  rw [if_neg (by simp), b_wrap (most - 7) (by omega) (by omega), hs]; simp only [Option.bind_some]
  rw [ht]; simp only [Option.bind_some]
  rw [b_wrap (8 + s) (by omega) (by omega), b_wrap (8 + t) (by omega) (by omega), mx_off num den v w h1 h2 h3 h4 q1 (by omega) q3 (by omega), mx_off num den (8 + s) (8 + t) h1 h2 h3 h4 (by omega) (by omega) (by omega) (by omega)]
  have o1 := off_bd num den v w h1 h2 h3 h4 q1 (by omega) q3 (by omega)
  have o2 := off_bd num den (8 + s) (8 + t) h1 h2 h3 h4 (by omega) (by omega) (by omega) (by omega)
  have p1 := offb (off num den v w) (8 + t) (by omega) (by omega) (by omega) (by omega)
  have p2 := offb (off num den (8 + s) (8 + t)) w (by omega) (by omega) (by omega) (by omega)
  have := K_le (q5 (8 + s) (8 + t) (by omega) (by omega) (by omega) (by omega) trivial)
  rw [b_wrap _ (by omega) (by omega), b_wrap _ (by omega) (by omega)]
  simp only [decide_eq_true this]

theorem FnWheels : laws_FnWheels.Pure := by
  intro code more _ _ hw1 _ _ hw2
  by_cases h1 : (code.length : Int) > 3000
  · exact ⟨0, by unfold laws_FnWheels.f laws_a2Long.f; rw [if_pos h1]; simp⟩
  by_cases h2 : (more.length : Int) > 3000
  · exact ⟨0, by unfold laws_FnWheels.f laws_a2Long.f; rw [if_neg h1]; simp [h2]⟩
  obtain ⟨a, ha, a0, a1⟩ := at_t code (by omega) hw1 0 100 (by omega) (by omega) (by omega)
  obtain ⟨b, hb, b0, b1⟩ := at_t code (by omega) hw1 1 100 (by omega) (by omega) (by omega)
  obtain ⟨c, hc, c0, c1⟩ := at_t more (by omega) hw2 0 40 (by omega) (by omega) (by omega)
  obtain ⟨x, y, e, hW, he, he'⟩ := wheels_t (1 + a) (1 + b)
  obtain ⟨r, ⟨M, hM⟩, ⟨L, hL⟩, hA⟩ := nearest_t (1 + a) (1 + b) (8 + c)
  obtain ⟨hr0, hbest⟩ := hA ⟨⟨by omega, by omega⟩, by omega, by omega⟩
  obtain ⟨v, w, z⟩ := r
  dsimp at hr0 hbest
  subst hr0
  have hlast := last_t more (by omega) hw2 (1 + a) (1 + b) (8 + c) v w (by omega) (by omega) (by omega) (by omega) (by omega) (by omega) hbest
  obtain ⟨q1, q2, q3, q4, q5⟩ := hbest
  have o1 := off_bd (1 + a) (1 + b) v w (by omega) (by omega) (by omega) (by omega) q1 (by omega) q3 (by omega)
  have hM : ∀ k, M ≤ k → impl_NearestWheels.f k (1 + a) (1 + b) (8 + c) = some (v, w, 0) := hM
  have hL : ∀ k, L ≤ k → spec_NearestWheels.f k (1 + a) (1 + b) (8 + c) = some (v, w, 0) := hL
  refine ⟨M + L + 1200 + 3, ?_⟩
  unfold laws_FnWheels.f laws_a2Long.f
  rw [if_neg h1]; simp only [Option.bind_some]
  rw [if_neg (by simp; omega), ha]; simp only [Option.bind_some]
  rw [hb]; simp only [Option.bind_some]
  rw [hc]; simp only [Option.bind_some]
  rw [b_wrap (1 + a) (by omega) (by omega), b_wrap (1 + b) (by omega) (by omega), b_wrap (8 + c) (by omega) (by omega)]
  rw [(hW _ (by omega)).1]; simp only [Option.bind_some]
  rw [(hW _ (by omega)).2]; simp only [Option.bind_some]
  rw [hM _ (by omega)]; simp only [Option.bind_some]
  rw [hL _ (by omega)]; simp only [Option.bind_some, if_true]
  rw [if_neg (by omega), if_neg (by omega), if_neg (by omega)]
  have hj0 : ∀ k, laws_FnWheels.j0 (k + 3) more (1 + a) (1 + b) (8 + c) e x y v w (decide (w > 8 + c)) = some true := by
    intro k
    have hj1 : laws_FnWheels.j1 (k + 2) more (1 + a) (1 + b) (8 + c) e v w false = some true := by
      simp only [laws_FnWheels.j1]
      rw [if_neg (by simp)]
      by_cases c : e = 0
      · rw [if_pos c]; exact hlast k
      · have : e = 6 := by omega
        rw [if_neg c, this]; exact hlast k
    simp only [laws_FnWheels.j0]
    rw [if_neg (by simp; omega)]
    by_cases ce : e = 0
    · obtain ⟨g1, g2, g3, g4, g5⟩ := he ce
      have p1 := mul_bd (1 + b) x (by omega) (by omega) (by omega) (by omega)
      have p2 := mul_bd (1 + a) y (by omega) (by omega) (by omega) (by omega)
      rw [Int.mul_comm (1 + b) x] at p1
      rw [Int.mul_comm (1 + a) y] at p2
      rw [if_pos ce, b_wrap (x * (1 + b)) (by omega) (by omega), b_wrap (y * (1 + a)) (by omega) (by omega), if_pos g1, if_neg (by omega), if_neg (by omega), if_neg (by omega), if_neg (by omega)]
      by_cases cx : x ≤ 8 + c
      · rw [if_pos cx]
        by_cases cy : y ≤ 8 + c
        · rw [if_pos cy]
          have hz := K_le (q5 x y g2 cx g4 cy trivial)
          rw [off_zero g1, Int.zero_mul] at hz
          have hv : off (1 + a) (1 + b) v w = 0 := by
            false_or_by_contra
            rename_i hne
            have : 0 < off (1 + a) (1 + b) v w * y := Int.mul_pos (by omega) (by omega)
            omega
          have hvw : v * (1 + b) = w * (1 + a) := by
            rw [Int.mul_comm w]; unfold off at hv; split at hv <;> omega
          have r2 : 0 ≤ w * (1 + a) ∧ w * (1 + a) ≤ 240000 := by rw [Int.mul_comm w]; omega
          rw [b_wrap (v * (1 + b)) (by omega) (by omega), b_wrap (w * (1 + a)) (by omega) (by omega), hvw]
          simpa using hj1
        · rw [if_neg cy]; exact hj1
      · rw [if_neg cx]; exact hj1
    · rw [if_neg ce]; exact hj1
  exact hj0 _

end Go.Proofs.Ytkjjmelhnbjoeaa.Pure
