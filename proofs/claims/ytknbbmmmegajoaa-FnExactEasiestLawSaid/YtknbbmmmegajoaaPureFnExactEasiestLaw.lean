/- The pure statement of the law FnExactEasiestLaw is proved: for every input that the law speaks of, the law's function answers true. No conditions beyond the statement's own. -/
import Derived.Test.YtknbbmmmegajoaaFFnExactEasiestLawx
namespace Go.Proofs.Ytknbbmmmegajoaa.Pure
open Go.RowKit Go.Proofs.Ytknbbmmmegajoaa.FFnExactEasiestLaw Go.Proofs.YtknbbmmmegajoaaW.PrintWords Go.Proofs.YtknbbmmmegajoaaW.PrintLast
set_option linter.unusedVariables false

theorem b_wrap (x : Int) (h : -9223372036854775808 ≤ x) (h' : x ≤ 9223372036854775807) : wrap64 x = x := by
  unfold wrap64; omega

theorem b_rd (l : List Int) (i : Nat) (h : i < l.length) : rd l (i : Int) = l[i] := by
  unfold rd; rw [List.getD_eq_getElem?_getD, Int.toNat_natCast, List.getElem?_eq_getElem h]; rfl

theorem b_take (l : List Int) (i : Nat) (h : i < l.length) : l.take (i + 1) = l.take i ++ [l[i]] := by
  rw [List.take_succ_eq_append_getElem h]

theorem b_set (x : List Int) (i : Nat) (v : Int) (h : i < x.length) : (x.set i v).take (i + 1) = x.take i ++ [v] := by
  have h' : i < (x.set i v).length := by rw [List.length_set]; exact h
  rw [List.take_succ_eq_append_getElem h', List.getElem_set_self, List.take_set_of_le (Nat.le_refl i)]
set_option linter.unusedSectionVars false
theorem impl_inRange_t (a b c : Int) : impl_inRange.f a b c = some (decide (b ≤ a ∧ a ≤ c)) := by
  unfold impl_inRange.f
  by_cases h : b ≤ a
  · rw [if_pos h]; simp [h]
  · rw [if_neg h]; simp [h]
theorem spec_l00In_t (a b c : Int) : spec_l00In.f a b c = some (decide (b ≤ a ∧ a ≤ c)) := by
  unfold spec_l00In.f
  by_cases h : b ≤ a
  · rw [if_pos h]; simp [h]
  · rw [if_neg h]; simp [h]
theorem floor_t (s n : Int) (hn : 0 < n) : (if Int.tmod s n < 0 then Int.tdiv s n - 1 else Int.tdiv s n) = s / n := by
  have e := Int.tmod_add_mul_tdiv s n
  have l1 := Int.tmod_lt_of_pos s hn
  have l2 : -n < Int.tmod s n := by
    by_cases h : 0 ≤ s
    · have := Int.tmod_nonneg n h; omega
    · have := Int.tmod_lt_of_pos (-s) hn
      rw [Int.neg_tmod] at this; omega
  have u := fun q r => (Int.ediv_emod_unique (a := s) (b := n) (r := r) (q := q) hn)
  by_cases h : Int.tmod s n < 0
  · rw [if_pos h]
    have m : n * (Int.tdiv s n - 1) = n * Int.tdiv s n - n := by rw [Int.mul_sub, Int.mul_one]
    exact ((u (Int.tdiv s n - 1) (Int.tmod s n + n)).mpr ⟨by omega, by omega, by omega⟩).1.symm
  · rw [if_neg h]
    exact ((u (Int.tdiv s n) (Int.tmod s n)).mpr ⟨by omega, by omega, by omega⟩).1.symm

theorem tdiv_bd (s n : Int) (hn : 0 < n) : (0 ≤ s → 0 ≤ Int.tdiv s n ∧ Int.tdiv s n ≤ s) ∧ (s ≤ 0 → s ≤ Int.tdiv s n ∧ Int.tdiv s n ≤ 0) := by
  constructor
  · intro h
    exact ⟨Int.tdiv_nonneg h (by omega), Int.tdiv_le_self n h⟩
  · intro h
    have a := Int.tdiv_nonneg (show 0 ≤ -s by omega) (show 0 ≤ n by omega)
    have b := Int.tdiv_le_self n (show 0 ≤ -s by omega)
    rw [Int.neg_tdiv] at a b; omega

theorem floorDiv_t (s n : Int) (hn : 0 < n) (hs : -1000000000000000000 ≤ s ∧ s ≤ 1000000000000000000) : impl_floorDiv.f s n = some (s / n) := by
  have t := tdiv_bd s n hn
  rw [← floor_t s n hn]
  unfold impl_floorDiv.f
  rw [if_neg (by omega), b_wrap (Int.tdiv s n) (by omega) (by omega), b_wrap (Int.tdiv s n - 1) (by omega) (by omega)]
  split <;> rfl
theorem mulb {x y X Y : Int} (h1 : 0 ≤ x) (h2 : x ≤ X) (h3 : 0 ≤ y) (h4 : y ≤ Y) : 0 ≤ x * y ∧ x * y ≤ X * Y :=
  ⟨Int.mul_nonneg h1 h3, Int.mul_le_mul h2 h4 h3 (by omega)⟩

/-- The fraction of a law: its whole. -/
def den (law n : Int) : Int := if law = 1 then n * n else if law = 2 then n * n * n else if law = 3 then n * n * n * n * n else n
/-- The fraction of a law: its part. -/
def num (law k n : Int) : Int :=
  if law = 1 then (if 2 * k ≤ n then 2 * k * k else n * n - 2 * (n - k) * (n - k))
  else if law = 2 then 3 * k * k * n - 2 * k * k * k
  else if law = 3 then k * k * k * (10 * n * n - 15 * k * n + 6 * k * k) else k

theorem den_bd (law n : Int) (h1 : 1 ≤ n) (h2 : n ≤ 360) : 1 ≤ den law n ∧ den law n ≤ 6046617600000 := by
  have a2 := mulb (show 0 ≤ n by omega) h2 (show 0 ≤ n by omega) h2
  have a3 := mulb a2.1 a2.2 (show 0 ≤ n by omega) h2
  have a4 := mulb a3.1 a3.2 (show 0 ≤ n by omega) h2
  have a5 := mulb a4.1 a4.2 (show 0 ≤ n by omega) h2
  have b2 : 1 ≤ n * n := Int.mul_pos (by omega) (by omega)
  have b3 : 1 ≤ n * n * n := Int.mul_pos (by omega) (by omega)
  have b4 : 1 ≤ n * n * n * n := Int.mul_pos (by omega) (by omega)
  have b5 : 1 ≤ n * n * n * n * n := Int.mul_pos (by omega) (by omega)
  unfold den; (repeat' split) <;> omega

theorem num_bd (law k n : Int) (h1 : 1 ≤ n) (h0 : 0 ≤ k) (hk : k ≤ n) : 0 ≤ num law k n ∧ num law k n ≤ den law n := by
  obtain ⟨a, rfl⟩ : ∃ a, n = k + a := ⟨n - k, by omega⟩
  have ha : 0 ≤ a := by omega
  have kk : 0 ≤ k * k := Int.mul_nonneg h0 h0
  have ka : 0 ≤ k * a := Int.mul_nonneg h0 ha
  have aa : 0 ≤ a * a := Int.mul_nonneg ha ha
  have kkk : 0 ≤ k * k * k := Int.mul_nonneg kk h0
  have aaa : 0 ≤ a * a * a := Int.mul_nonneg aa ha
  unfold num den
  by_cases c1 : law = 1
  · rw [if_pos c1, if_pos c1]
    by_cases c : 2 * k ≤ k + a
    · rw [if_pos c]
      have m : k * k ≤ k * a := Int.mul_le_mul_of_nonneg_left (by omega) h0
      have e1 : 2 * k * k = 2 * (k * k) := by grind
      have e2 : (k + a) * (k + a) = k * k + 2 * (k * a) + a * a := by grind
      rw [e1, e2]; omega
    · rw [if_neg c]
      have m : a * a ≤ k * a := Int.mul_le_mul_of_nonneg_right (by omega) ha
      have e2 : (k + a) * (k + a) - 2 * (k + a - k) * (k + a - k) = k * k + 2 * (k * a) - a * a := by grind
      have e3 : (k + a) * (k + a) = k * k + 2 * (k * a) + a * a := by grind
      rw [e2, e3]; omega
  · rw [if_neg c1, if_neg c1]
    by_cases c2 : law = 2
    · rw [if_pos c2, if_pos c2]
      have e1 : 3 * k * k * (k + a) - 2 * k * k * k = k * k * k + 3 * (k * k * a) := by grind
      have e2 : (k + a) * (k + a) * (k + a) = (k * k * k + 3 * (k * k * a)) + (a * a * a + 3 * (k * (a * a))) := by grind
      have p1 : 0 ≤ k * k * a := Int.mul_nonneg kk ha
      have p2 : 0 ≤ k * (a * a) := Int.mul_nonneg h0 aa
      rw [e1, e2]; omega
    · rw [if_neg c2, if_neg c2]
      by_cases c3 : law = 3
      · rw [if_pos c3, if_pos c3]
        have e0 : 10 * (k + a) * (k + a) - 15 * k * (k + a) + 6 * k * k = k * k + 5 * (k * a) + 10 * (a * a) := by grind
        have e2 : (k + a) * (k + a) * (k + a) * (k + a) * (k + a) = k * k * k * (k * k + 5 * (k * a) + 10 * (a * a)) + a * a * a * (a * a + 5 * (k * a) + 10 * (k * k)) := by grind
        have p1 : 0 ≤ k * k * k * (k * k + 5 * (k * a) + 10 * (a * a)) := Int.mul_nonneg kkk (by omega)
        have p2 : 0 ≤ a * a * a * (a * a + 5 * (k * a) + 10 * (k * k)) := Int.mul_nonneg aaa (by omega)
        rw [e0, e2]; omega
      · rw [if_neg c3, if_neg c3]; omega

theorem shape_t (law k n : Int) (hl : 0 ≤ law ∧ law ≤ 3) (h1 : 1 ≤ n) (h2 : n ≤ 360) (h0 : 0 ≤ k) (hk : k ≤ n) :
    spec_l02Shape.f law k n = some (num law k n, den law n) ∧ impl_shape.f law k n = some (num law k n, den law n) := by
  have nn := mulb (show 0 ≤ n by omega) h2 (show 0 ≤ n by omega) h2
  have nnn := mulb nn.1 nn.2 (show 0 ≤ n by omega) h2
  have n4 := mulb nnn.1 nnn.2 (show 0 ≤ n by omega) h2
  have n5 := mulb n4.1 n4.2 (show 0 ≤ n by omega) h2
  have kk := mulb h0 (show k ≤ 360 by omega) h0 (show k ≤ 360 by omega)
  have kn := mulb h0 (show k ≤ 360 by omega) (show 0 ≤ n by omega) h2
  have kkn := mulb kk.1 kk.2 (show 0 ≤ n by omega) h2
  have kkk := mulb kk.1 kk.2 h0 (show k ≤ 360 by omega)
  have e1 : 2 * k * k = 2 * (k * k) := by grind
  have dd := mulb (show 0 ≤ n - k by omega) (show n - k ≤ 360 by omega) (show 0 ≤ n - k by omega) (show n - k ≤ 360 by omega)
  have e2 : 2 * (n - k) * (n - k) = 2 * ((n - k) * (n - k)) := by grind
  have e3 : 3 * k * k = 3 * (k * k) := by grind
  have e4 : 3 * (k * k) * n = 3 * (k * k * n) := by grind
  have e5 : 2 * (k * k) * k = 2 * (k * k * k) := by grind
  have e6 : 10 * n * n = 10 * (n * n) := by grind
  have e7 : 15 * k * n = 15 * (k * n) := by grind
  have e8 : 6 * k * k = 6 * (k * k) := by grind
  have hb := num_bd law k n h1 h0 hk
  have db := den_bd law n h1 h2
  rcases (by omega : law = 0 ∨ law = 1 ∨ law = 2 ∨ law = 3) with h | h | h | h
  · subst h
    unfold spec_l02Shape.f impl_shape.f num den; simp
  · subst h
    simp only [num, den, if_true] at hb db ⊢
    unfold spec_l02Shape.f impl_shape.f
    simp only [if_true, show ¬ ((1 : Int) = 0) by omega, if_false]
    rw [b_wrap (2 * k) (by omega) (by omega), b_wrap (2 * k * k) (by omega) (by omega), b_wrap (n * n) (by omega) (by omega), b_wrap (n - k) (by omega) (by omega), b_wrap (2 * (n - k)) (by omega) (by omega), b_wrap (2 * (n - k) * (n - k)) (by omega) (by omega), b_wrap (n * n - 2 * (n - k) * (n - k)) (by omega) (by omega)]
    constructor <;> split <;> rfl
  · subst h
    simp only [num, den, if_true, show ¬ ((2 : Int) = 1) by omega, if_false] at hb db ⊢
    unfold spec_l02Shape.f impl_shape.f
    simp only [if_true, show ¬ ((2 : Int) = 0) by omega, show ¬ ((2 : Int) = 1) by omega, if_false]
    rw [b_wrap (3 * k) (by omega) (by omega), b_wrap (3 * k * k) (by omega) (by omega), b_wrap (2 * k) (by omega) (by omega), b_wrap (2 * k * k) (by omega) (by omega), e3, e1, e4, e5, b_wrap (3 * (k * k * n)) (by omega) (by omega), b_wrap (2 * (k * k * k)) (by omega) (by omega), b_wrap (3 * (k * k * n) - 2 * (k * k * k)) (by omega) (by omega), b_wrap (n * n) (by omega) (by omega), b_wrap (n * n * n) (by omega) (by omega)]
    exact ⟨rfl, rfl⟩
  · subst h
    simp only [num, den, if_true, show ¬ ((3 : Int) = 1) by omega, show ¬ ((3 : Int) = 2) by omega, if_false] at hb db ⊢
    unfold spec_l02Shape.f impl_shape.f
    simp only [if_true, show ¬ ((3 : Int) = 0) by omega, show ¬ ((3 : Int) = 1) by omega, show ¬ ((3 : Int) = 2) by omega, if_false]
    rw [b_wrap (k * k) (by omega) (by omega), b_wrap (k * k * k) (by omega) (by omega), b_wrap (10 * n) (by omega) (by omega), b_wrap (15 * k) (by omega) (by omega), b_wrap (6 * k) (by omega) (by omega), b_wrap (10 * n * n) (by omega) (by omega), b_wrap (15 * k * n) (by omega) (by omega), b_wrap (6 * k * k) (by omega) (by omega), b_wrap (10 * n * n - 15 * k * n) (by omega) (by omega), b_wrap (10 * n * n - 15 * k * n + 6 * k * k) (by omega) (by omega), b_wrap (k * k * k * _) (by omega) (by omega), b_wrap (n * n) (by omega) (by omega), b_wrap (n * n * n) (by omega) (by omega), b_wrap (n * n * n * n) (by omega) (by omega), b_wrap (n * n * n * n * n) (by omega) (by omega)]
    exact ⟨rfl, rfl⟩

/-- The lift behind k of n steps. -/
def lift (a b law k n : Int) : Int := (2 * (a * den law n + (b - a) * num law k n) + den law n) / (2 * den law n)

theorem near_t (x d : Int) (hd : 1 ≤ d) (hd' : d ≤ 10000000000000) (hx : -2000000000000000000 ≤ x ∧ x ≤ 2000000000000000000) :
    spec_l01Near.f x d = some ((2 * x + d) / (2 * d)) ∧ impl_nearest.f x d = some ((2 * x + d) / (2 * d)) := by
  have t := tdiv_bd (2 * x + d) (2 * d) (by omega)
  have f := floor_t (2 * x + d) (2 * d) (by omega)
  unfold spec_l01Near.f impl_nearest.f impl_floorDiv.f
  rw [b_wrap (2 * x) (by omega) (by omega), b_wrap (2 * d) (by omega) (by omega), b_wrap (2 * x + d) (by omega) (by omega), b_wrap (Int.tdiv _ _) (by omega) (by omega), b_wrap (_ - 1) (by omega) (by omega), if_neg (by omega), ← f]
  constructor
  · split <;> rfl
  · split <;> rfl

theorem mid_bd (a b law k n : Int) (ha : 0 ≤ a ∧ a ≤ 10000) (hb : 0 ≤ b ∧ b ≤ 10000) (h1 : 1 ≤ n) (h2 : n ≤ 360) (h0 : 0 ≤ k) (hk : k ≤ n) :
    (0 ≤ a * den law n ∧ a * den law n ≤ 60466176000000000) ∧ (-60466176000000000 ≤ (b - a) * num law k n ∧ (b - a) * num law k n ≤ 60466176000000000) := by
  have d := den_bd law n h1 h2
  have m := num_bd law k n h1 h0 hk
  have p := mulb ha.1 ha.2 (show 0 ≤ den law n by omega) d.2
  refine ⟨by omega, ?_⟩
  by_cases c : a ≤ b
  · have q := mulb (show 0 ≤ b - a by omega) (show b - a ≤ 10000 by omega) m.1 (show num law k n ≤ 6046617600000 by omega)
    omega
  · have q := mulb (show 0 ≤ a - b by omega) (show a - b ≤ 10000 by omega) m.1 (show num law k n ≤ 6046617600000 by omega)
    have e : (b - a) * num law k n = -((a - b) * num law k n) := by grind
    omega

theorem liftIn_t (a b law k n : Int) (ha : 0 ≤ a ∧ a ≤ 10000) (hb : 0 ≤ b ∧ b ≤ 10000) (hl : 0 ≤ law ∧ law ≤ 3) (h1 : 1 ≤ n) (h2 : n ≤ 360) (h0 : 0 ≤ k) (hk : k ≤ n) :
    spec_l02Lift.f a b law k n = some (lift a b law k n) ∧ impl_liftIn.f a b law k n = some (lift a b law k n) := by
  have d := den_bd law n h1 h2
  have m := mid_bd a b law k n ha hb h1 h2 h0 hk
  have s := shape_t law k n hl h1 h2 h0 hk
  have t := near_t (a * den law n + (b - a) * num law k n) (den law n) (by omega) (by omega) (by omega)
  unfold spec_l02Lift.f impl_liftIn.f
  rw [s.1, s.2]; simp only [Option.bind_some]
  rw [b_wrap (b - a) (by omega) (by omega), b_wrap (a * den law n) (by omega) (by omega), b_wrap ((b - a) * num law k n) (by omega) (by omega), b_wrap (_ + _) (by omega) (by omega), t.1, t.2]
  exact ⟨rfl, rfl⟩

/-- The lift lies between those of the motion. -/
theorem lift_bd (a b law k n : Int) (h1 : 1 ≤ n) (h2 : n ≤ 360) (h0 : 0 ≤ k) (hk : k ≤ n) : (a ≤ b → a ≤ lift a b law k n ∧ lift a b law k n ≤ b) ∧ (b ≤ a → b ≤ lift a b law k n ∧ lift a b law k n ≤ a) := by
  have d := den_bd law n h1 h2
  have m := num_bd law k n h1 h0 hk
  unfold lift
  generalize den law n = D at *
  generalize num law k n = M at *
  have key : ∀ z : Int, (2 * z ≤ 2 * (a * D + (b - a) * M) + D → True) → True := fun _ _ => trivial
  constructor
  · intro hab
    have q := Int.mul_le_mul_of_nonneg_left m.2 (show 0 ≤ b - a by omega)
    have q0 := Int.mul_nonneg (show 0 ≤ b - a by omega) m.1
    have e : (b - a) * D = b * D - a * D := by grind
    constructor
    · rw [Int.le_ediv_iff_mul_le (by omega)]
      have e1 : a * (2 * D) = 2 * (a * D) := by grind
      omega
    · have : (2 * (a * D + (b - a) * M) + D) / (2 * D) < b + 1 := by
        rw [Int.ediv_lt_iff_lt_mul (by omega)]
        have e1 : (b + 1) * (2 * D) = 2 * (b * D) + 2 * D := by grind
        omega
      omega
  · intro hab
    have q := Int.mul_le_mul_of_nonneg_left m.2 (show 0 ≤ a - b by omega)
    have q0 := Int.mul_nonneg (show 0 ≤ a - b by omega) m.1
    have e : (a - b) * D = a * D - b * D := by grind
    have e' : (b - a) * M = -((a - b) * M) := by grind
    constructor
    · rw [Int.le_ediv_iff_mul_le (by omega)]
      have e1 : b * (2 * D) = 2 * (b * D) := by grind
      omega
    · have : (2 * (a * D + (b - a) * M) + D) / (2 * D) < a + 1 := by
        rw [Int.ediv_lt_iff_lt_mul (by omega)]
        have e1 : (a + 1) * (2 * D) = 2 * (a * D) + 2 * D := by grind
        omega
      omega


def ab (x : Int) : Int := if x < 0 then -x else x
/-- The change at a step. -/
def C (a b law : Int) (N : Nat) (j : Nat) : Int := if j < N then lift a b law ((j + 1 : Nat) : Int) (N : Int) - lift a b law (j : Int) (N : Int) else 0
/-- The change ahead of a step. -/
def Pr (a b law : Int) (N : Nat) (j : Nat) : Int := if j = 0 then 0 else C a b law N (j - 1)
/-- The bend at a step. -/
def D (a b law : Int) (N : Nat) (j : Nat) : Int := C a b law N j - Pr a b law N j
/-- The greatest bend of the first ones. -/
def G (a b law : Int) (N : Nat) : Nat → Int
  | 0 => 0
  | j + 1 => if G a b law N j > ab (D a b law N j) then G a b law N j else ab (D a b law N j)

theorem G0 (a b law : Int) (N : Nat) : G a b law N 0 = 0 := rfl
theorem GS (a b law : Int) (N j : Nat) : G a b law N (j + 1) = if G a b law N j > ab (D a b law N j) then G a b law N j else ab (D a b law N j) := rfl
theorem DE (a b law : Int) (N j : Nat) : D a b law N j = C a b law N j - Pr a b law N j := rfl
theorem PS (a b law : Int) (N i : Nat) : Pr a b law N (i + 1) = C a b law N i := by unfold Pr; rw [if_neg (by omega)]; rfl
attribute [local irreducible] lift num den C Pr D ab G

theorem C_bd (a b law : Int) (N j : Nat) (ha : 0 ≤ a ∧ a ≤ 10000) (hb : 0 ≤ b ∧ b ≤ 10000) (hN : N ≤ 360) : -10000 ≤ C a b law N j ∧ C a b law N j ≤ 10000 := by
  unfold C
  split
  · have h1 := lift_bd a b law ((j + 1 : Nat) : Int) N (by omega) (by omega) (by omega) (by omega)
    have h2 := lift_bd a b law (j : Int) N (by omega) (by omega) (by omega) (by omega)
    generalize lift a b law ((j + 1 : Nat) : Int) N = x at *
    generalize lift a b law (j : Int) N = y at *
    rcases Int.le_total a b with h | h
    · have h1 := h1.1 h
      have h2 := h2.1 h
      omega
    · have h1 := h1.2 h
      have h2 := h2.2 h
      omega
  · omega

theorem Pr_bd (a b law : Int) (N j : Nat) (ha : 0 ≤ a ∧ a ≤ 10000) (hb : 0 ≤ b ∧ b ≤ 10000) (hN : N ≤ 360) : -10000 ≤ Pr a b law N j ∧ Pr a b law N j ≤ 10000 := by
  unfold Pr
  split
  · omega
  · exact C_bd a b law N _ ha hb hN

theorem G_bd (a b law : Int) (N : Nat) (ha : 0 ≤ a ∧ a ≤ 10000) (hb : 0 ≤ b ∧ b ≤ 10000) (hN : N ≤ 360) (j : Nat) : 0 ≤ G a b law N j ∧ G a b law N j ≤ 20000 := by
  induction j with
  | zero => rw [G0]; omega
  | succ j ih =>
    have h1 := C_bd a b law N j ha hb hN
    have h2 := Pr_bd a b law N j ha hb hN
    have hx : 0 ≤ ab (D a b law N j) ∧ ab (D a b law N j) ≤ 20000 := by unfold D ab; split <;> omega
    rw [GS]
    split
    · exact ih
    · exact hx

theorem app_l {x : List Int} {i : Nat} {f : Nat → Int} (hx : x.length = i) (hv : ∀ j, j < i → x.getD j 0 = f j) (v : Int) (e : v = f i) : ∀ j, j < i + 1 → (x ++ [v]).getD j 0 = f j := by
  intro j hj
  rw [List.getD_eq_getElem?_getD, List.getElem?_append]
  split
  · rw [← List.getD_eq_getElem?_getD]; exact hv j (by omega)
  · have q : j = x.length := by omega
    subst q; subst hx; simp [e]

theorem b_rdN (x : List Int) (j : Nat) : rd x (j : Int) = x.getD j 0 := by unfold rd; rw [Int.toNat_natCast]

section
variable (a b law : Int) (N : Nat) (ha : 0 ≤ a ∧ a ≤ 10000) (hb : 0 ≤ b ∧ b ≤ 10000) (hl : 0 ≤ law ∧ law ≤ 3) (h1 : 1 ≤ N) (h2 : N ≤ 360)
include ha hb hl h1 h2

theorem lifts_l (d : Nat) : ∀ (k i : Nat) (x : List Int), N + 1 - i = d → i ≤ N + 1 → d < k → x.length = i → (∀ j, j < i → x.getD j 0 = lift a b law (j : Int) N) →
    ∃ out, out.length = N + 1 ∧ (∀ j, j < N + 1 → out.getD j 0 = lift a b law (j : Int) N) ∧ spec_l02Lifts.l0 k a b law N x (i : Int) = some out := by
  induction d with
  | zero =>
    intro k i x hd hi hk hx hv
    obtain ⟨k, rfl⟩ : ∃ m, k = m + 1 := ⟨k - 1, by omega⟩
    refine ⟨x, by omega, fun j hj => hv j (by omega), ?_⟩
    simp only [spec_l02Lifts.l0]; rw [if_neg (by omega)]
  | succ d ih =>
    intro k i x hd hi hk hx hv
    obtain ⟨k, rfl⟩ : ∃ m, k = m + 1 := ⟨k - 1, by omega⟩
    obtain ⟨out, q1, q2, q3⟩ := ih k (i + 1) (x ++ [lift a b law (i : Int) N]) (by omega) (by omega) (by omega) (by simp [hx]) (app_l hx hv _ rfl)
    refine ⟨out, q1, q2, ?_⟩
    simp only [spec_l02Lifts.l0]
    rw [if_pos (by omega), (liftIn_t a b law i N ha hb hl (by omega) (by omega) (by omega) (by omega)).1]; simp only [Option.bind_some]
    rw [if_pos (by omega), b_wrap _ (by omega) (by omega), show ((i : Int) + 1) = ((i + 1 : Nat) : Int) by omega, q3]

theorem sbend_l (out : List Int) (ho : out.length = N + 1) (hv : ∀ j, j < N + 1 → out.getD j 0 = lift a b law (j : Int) N) (d : Nat) : ∀ (k i : Nat), N + 1 - i = d → i ≤ N + 1 → d < k →
    spec_l02Bend.l0 k N out (Pr a b law N i) (G a b law N i) (i : Int) = some (G a b law N (N + 1)) := by
  induction d with
  | zero =>
    intro k i hd hi hk
    obtain ⟨k, rfl⟩ : ∃ m, k = m + 1 := ⟨k - 1, by omega⟩
    have e : i = N + 1 := by omega
    subst e
    simp only [spec_l02Bend.l0]; rw [if_neg (by omega)]
  | succ d ih =>
    intro k i hd hi hk
    obtain ⟨k, rfl⟩ : ∃ m, k = m + 1 := ⟨k - 1, by omega⟩
    have c1 := C_bd a b law N i ha hb h2
    have c2 := Pr_bd a b law N i ha hb h2
    have ih' := ih k (i + 1) (by omega) (by omega) (by omega)
    have p := PS a b law N i
    have g : G a b law N (i + 1) = if G a b law N i > ab (D a b law N i) then G a b law N i else ab (D a b law N i) := GS a b law N i
    have sz : ∀ x : Int, -100000 ≤ x ∧ x ≤ 100000 → spec_l01Size.f x = some (ab x) := by
      intro x hx; unfold spec_l01Size.f ab; rw [b_wrap (-x) (by omega) (by omega)]; split <;> rfl
    have mxx : ∀ x y : Int, spec_l00Max.f x y = some (if x > y then x else y) := by
      intro x y; unfold spec_l00Max.f; split <;> rfl
    rw [p, g] at ih'
    clear g p
    simp only [spec_l02Bend.l0]
    rw [if_pos (by omega)]
    by_cases c : i < N
    · have hC : C a b law N i = lift a b law ((i + 1 : Nat) : Int) N - lift a b law (i : Int) N := by unfold C; rw [if_pos c]
      have w : Unit → wrap64 ((i : Int) + 1) = ((i + 1 : Nat) : Int) := fun _ => by rw [b_wrap _ (by omega) (by omega)]; omega
      rw [if_pos (by omega), w (), if_pos (by omega), if_pos (by omega), if_pos (by omega), if_pos (by omega), b_rdN, b_rdN, hv (i + 1) (by omega), hv i (by omega), ← hC, b_wrap (C a b law N i) (by omega) (by omega), b_wrap (_ - _) (by omega) (by omega)]
      rw [← DE, sz _ (by rw [DE]; omega)]; simp only [Option.bind_some]
      rw [mxx]; simp only [Option.bind_some]
      exact ih'
    · have hC : C a b law N i = 0 := by unfold C; rw [if_neg c]
      have hD : D a b law N i = - Pr a b law N i := by unfold D; rw [hC]; omega
      rw [hC, hD] at ih'
      rw [if_neg (by omega), b_wrap (- _) (by omega) (by omega), sz _ (by omega)]; simp only [Option.bind_some]
      rw [mxx]; simp only [Option.bind_some]
      rw [b_wrap _ (by omega) (by omega), show ((i : Int) + 1) = ((i + 1 : Nat) : Int) by omega]
      exact ih'

theorem sbend_t (k : Nat) (hk : 400 ≤ k) : spec_l02Bend.f k a b law N = some (G a b law N (N + 1)) := by
  obtain ⟨out, q1, q2, q3⟩ := lifts_l a b law N ha hb hl h1 h2 (N + 1) k 0 [] (by omega) (by omega) (by omega) rfl (fun j hj => by omega)
  have z := sbend_l a b law N ha hb hl h1 h2 out q1 q2 (N + 1) k 0 (by omega) (by omega) (by omega)
  rw [G0, show Pr a b law N 0 = 0 by unfold Pr; rfl] at z
  unfold spec_l02Bend.f spec_l02Lifts.f
  rw [show spec_l02Lifts.l0 k a b law N [] 0 = some out from q3]
  exact z

theorem changes_l (d : Nat) : ∀ (k i : Nat) (x : List Int), N - i = d → i ≤ N → d < k → x.length = i → (∀ j, j < i → x.getD j 0 = C a b law N j) →
    ∃ out, out.length = N ∧ (∀ j, j < N → out.getD j 0 = C a b law N j) ∧ impl_changesIn.l0 k a b law N x N (i : Int) = some out := by
  induction d with
  | zero =>
    intro k i x hd hi hk hx hv
    obtain ⟨k, rfl⟩ : ∃ m, k = m + 1 := ⟨k - 1, by omega⟩
    refine ⟨x, by omega, fun j hj => hv j (by omega), ?_⟩
    simp only [impl_changesIn.l0]; rw [if_neg (by omega)]
  | succ d ih =>
    intro k i x hd hi hk hx hv
    obtain ⟨k, rfl⟩ : ∃ m, k = m + 1 := ⟨k - 1, by omega⟩
    have c1 := C_bd a b law N i ha hb h2
    have hC : C a b law N i = lift a b law ((i + 1 : Nat) : Int) N - lift a b law (i : Int) N := by unfold C; rw [if_pos (by omega)]
    have w : Unit → wrap64 ((i : Int) + 1) = ((i + 1 : Nat) : Int) := fun _ => by rw [b_wrap _ (by omega) (by omega)]; omega
    obtain ⟨out, q1, q2, q3⟩ := ih k (i + 1) (x ++ [C a b law N i]) (by omega) (by omega) (by omega) (by simp [hx]) (app_l hx hv _ rfl)
    refine ⟨out, q1, q2, ?_⟩
    simp only [impl_changesIn.l0]
    rw [if_pos (by omega), w (), (liftIn_t a b law ((i + 1 : Nat) : Int) N ha hb hl (by omega) (by omega) (by omega) (by omega)).2]; simp only [Option.bind_some]
    rw [(liftIn_t a b law i N ha hb hl (by omega) (by omega) (by omega) (by omega)).2]; simp only [Option.bind_some]
    rw [if_pos (by omega), ← hC, b_wrap (C a b law N i) (by omega) (by omega), q3]

theorem greatest_l (out : List Int) (ho : out.length = N + 1) (hv : ∀ j, j < N + 1 → out.getD j 0 = D a b law N j) (d : Nat) : ∀ (k i : Nat) (at0 : Int), N + 1 - i = d → i ≤ N + 1 → d < k →
    ∃ at1, impl_greatest.l0 k at0 (if i = 0 then -1 else G a b law N i) out ((N + 1 : Nat) : Int) (i : Int) = some (at1, G a b law N (N + 1)) := by
  induction d with
  | zero =>
    intro k i at0 hd hi hk
    obtain ⟨k, rfl⟩ : ∃ m, k = m + 1 := ⟨k - 1, by omega⟩
    have e : i = N + 1 := by omega
    subst e
    refine ⟨at0, ?_⟩
    simp only [impl_greatest.l0]; rw [if_neg (by omega), if_neg (by omega)]
  | succ d ih =>
    intro k i at0 hd hi hk
    obtain ⟨k, rfl⟩ : ∃ m, k = m + 1 := ⟨k - 1, by omega⟩
    have c1 := C_bd a b law N i ha hb h2
    have c2 := Pr_bd a b law N i ha hb h2
    have g0 := G_bd a b law N ha hb h2 i
    have hD : -20000 ≤ D a b law N i ∧ D a b law N i ≤ 20000 := by unfold D; omega
    have w : Unit → wrap64 ((i : Int) + 1) = ((i + 1 : Nat) : Int) := fun _ => by rw [b_wrap _ (by omega) (by omega)]; omega
    have g : G a b law N (i + 1) = if G a b law N i > ab (D a b law N i) then G a b law N i else ab (D a b law N i) := GS a b law N i
    have az : impl_abs.f (D a b law N i) = some (ab (D a b law N i)) := by
      unfold impl_abs.f ab mx; rw [b_wrap (- _) (by omega) (by omega)]; congr 1; split <;> split <;> omega
    have a0 : 0 ≤ ab (D a b law N i) := by unfold ab; split <;> omega
    simp only [impl_greatest.l0]
    rw [if_pos (by omega), if_pos (by omega), if_pos (by omega), b_rdN, hv i (by omega), az, w ()]; simp only [Option.bind_some]
    by_cases c : ab (D a b law N i) > (if i = 0 then -1 else G a b law N i)
    · obtain ⟨at1, h⟩ := ih k (i + 1) (i : Int) (by omega) (by omega) (by omega)
      refine ⟨at1, ?_⟩
      rw [if_neg (by omega)] at h
      have e : G a b law N (i + 1) = ab (D a b law N i) := by
        rw [g]
        by_cases z : i = 0
        · subst z; rw [G0, if_neg (by omega)]
        · rw [if_neg z] at c; rw [if_neg (by omega)]
      rw [if_pos c, ← e]; exact h
    · obtain ⟨at1, h⟩ := ih k (i + 1) at0 (by omega) (by omega) (by omega)
      refine ⟨at1, ?_⟩
      rw [if_neg (by omega)] at h
      by_cases z : i = 0
      · rw [if_pos z] at c; omega
      · rw [if_neg z] at c ⊢
        have e : G a b law N (i + 1) = G a b law N i := by rw [g]; split <;> omega
        rw [if_neg c, ← e]; exact h

theorem greatest_t (out : List Int) (ho : out.length = N + 1) (hv : ∀ j, j < N + 1 → out.getD j 0 = D a b law N j) (k : Nat) (hk : 400 ≤ k) : ∃ at1, impl_greatest.f k out = some (at1, G a b law N (N + 1)) := by
  unfold impl_greatest.f
  rw [ho]
  exact greatest_l a b law N ha hb hl h1 h2 out ho hv (N + 1) k 0 0 (by omega) (by omega) (by omega)

theorem bends_l (p q : Int) (y : List Int) (hy : y.length = N + 1) (hv : ∀ j, j < N + 1 → y.getD j 0 = C a b law N j) (d : Nat) : ∀ (k i : Nat) (x : List Int), N + 1 - i = d → i ≤ N + 1 → d < k → x.length = i → (∀ j, j < i → x.getD j 0 = D a b law N j) →
    ∃ out, out.length = N + 1 ∧ (∀ j, j < N + 1 → out.getD j 0 = D a b law N j) ∧ impl_EasiestLaw.l1 k a b N p q law y x y ((N + 1 : Nat) : Int) (i : Int) = impl_EasiestLaw.l1 (k - d) a b N p q law y out y ((N + 1 : Nat) : Int) ((N + 1 : Nat) : Int) := by
  induction d with
  | zero =>
    intro k i x hd hi hk hx hv'
    have e : i = N + 1 := by omega
    subst e
    exact ⟨x, hx, hv', rfl⟩
  | succ d ih =>
    intro k i x hd hi hk hx hv'
    obtain ⟨k, rfl⟩ : ∃ m, k = m + 1 := ⟨k - 1, by omega⟩
    have c1 := C_bd a b law N i ha hb h2
    have c2 := Pr_bd a b law N i ha hb h2
    have w : Unit → wrap64 ((i : Int) + 1) = ((i + 1 : Nat) : Int) := fun _ => by rw [b_wrap _ (by omega) (by omega)]; omega
    obtain ⟨out, q1, q2, q3⟩ := ih k (i + 1) (x ++ [D a b law N i]) (by omega) (by omega) (by omega) (by simp [hx]) (app_l hx hv' _ rfl)
    refine ⟨out, q1, q2, ?_⟩
    rw [show k + 1 - (d + 1) = k - d by omega, ← q3, impl_EasiestLaw.l1]
    rw [if_pos (by omega), if_pos (by omega), if_pos (by omega), w ()]
    by_cases z : i = 0
    · subst z
      have e : D a b law N 0 = C a b law N 0 := by unfold D Pr; rw [if_pos rfl]; omega
      rw [if_neg (by omega), if_pos (by omega), b_rdN, hv 0 (by omega), e]
    · have w2 : Unit → wrap64 ((i : Int) - 1) = ((i - 1 : Nat) : Int) := fun _ => by rw [b_wrap _ (by omega) (by omega)]; omega
      have e : D a b law N i = C a b law N i - C a b law N (i - 1) := by unfold D Pr; rw [if_neg z]
      rw [if_pos (by omega), w2 (), if_pos (by omega), if_pos (by omega), if_pos (by omega), b_rdN, b_rdN, hv i (by omega), hv (i - 1) (by omega), ← e, b_wrap (D a b law N i) (by unfold D; omega) (by unfold D; omega)]

theorem law_l (p q : Int) (k : Nat) (hk : 1000 ≤ k) : ∃ k', k ≤ k' + 400 ∧ impl_EasiestLaw.l0 k a b N p q law =
    (if q < 0 then impl_EasiestLaw.l0 k' a b N law (G a b law N (N + 1)) (law + 1) else if G a b law N (N + 1) < q then impl_EasiestLaw.l0 k' a b N law (G a b law N (N + 1)) (law + 1) else impl_EasiestLaw.l0 k' a b N p q (law + 1)) := by
  obtain ⟨k, rfl⟩ : ∃ m, k = m + 1 := ⟨k - 1, by omega⟩
  obtain ⟨cs, c1, c2, c3⟩ := changes_l a b law N ha hb hl h1 h2 N k 0 [] (by omega) (by omega) (by omega) rfl (fun j hj => by omega)
  have y1 : (cs ++ [(0 : Int)]).length = N + 1 := by simp [c1]
  have y2 := app_l c1 c2 0 (by unfold C; rw [if_neg (by omega)])
  obtain ⟨out, o1, o2, o3⟩ := bends_l a b law N ha hb hl h1 h2 p q (cs ++ [0]) y1 y2 (N + 1) k 0 [] (by omega) (by omega) (by omega) rfl (fun j hj => by omega)
  obtain ⟨m, hm⟩ : ∃ m, k - (N + 1) = m + 1 := ⟨k - (N + 1) - 1, by omega⟩
  obtain ⟨at1, g⟩ := greatest_t a b law N ha hb hl h1 h2 out o1 o2 m (by omega)
  refine ⟨m, by omega, ?_⟩
  rw [impl_EasiestLaw.l0]
  unfold impl_isLaw.f impl_changesIn.f
  simp only [impl_inRange_t, Option.bind_some, decide_eq_true hl, if_true]
  rw [show impl_changesIn.l0 k a b law N [] N 0 = some cs from c3]; simp only [Option.bind_some]
  rw [if_pos (by omega), y1, show (0 : Int) = ((0 : Nat) : Int) from rfl, show ([((0 : Nat) : Int)] : List Int) = [0] from rfl, o3, hm, impl_EasiestLaw.l1, if_neg (by omega), g]; simp only [Option.bind_some]
  rw [b_wrap (law + 1) (by omega) (by omega)]
  rfl
end

theorem end_l (a b : Int) (N : Nat) (p q : Int) (k : Nat) (hk : 1 ≤ k) : impl_EasiestLaw.l0 k a b N p q 4 = some (p, q, 0) := by
  obtain ⟨k, rfl⟩ : ∃ m, k = m + 1 := ⟨k - 1, by omega⟩
  rw [impl_EasiestLaw.l0]
  unfold impl_isLaw.f
  simp only [impl_inRange_t, Option.bind_some]
  rfl

theorem ar1 (c d k : Nat) (hc : 1000 ≤ c) (hk : c + 500 * (d + 1) ≤ k) : 1000 ≤ k := Nat.le_trans hc (Nat.le_trans (Nat.le_add_right _ _) hk)
theorem ar2 (c d k : Nat) (hc : 1000 ≤ c) (hk : c + (d + 1) ≤ k + 1) : 400 ≤ k := by omega

theorem both_l (a b : Int) (N : Nat) (ha : 0 ≤ a ∧ a ≤ 10000) (hb : 0 ≤ b ∧ b ≤ 10000) (h1 : 1 ≤ N) (h2 : N ≤ 360) (c : Nat) (hc : 1000 ≤ c) (d : Nat) : ∀ (law p q : Int) (k k' : Nat), 4 - law = d → 1 ≤ law → 0 ≤ q → c + d ≤ k → c + 500 * d ≤ k' →
    ∃ r, spec_EasiestLaw.l0 k a b N p q law = some r ∧ impl_EasiestLaw.l0 k' a b N p q law = some r := by
  induction d with
  | zero =>
    intro law p q k k' hd hl hq hk hk'
    have e : law = 4 := by omega
    subst e
    refine ⟨(p, q, 0), ?_, end_l a b N p q k' (by omega)⟩
    obtain ⟨k, rfl⟩ : ∃ m, k = m + 1 := ⟨k - 1, by omega⟩
    rw [spec_EasiestLaw.l0, if_neg (by omega)]
  | succ d ih =>
    intro law p q k k' hd hl hq hk hk'
    obtain ⟨k, rfl⟩ : ∃ m, k = m + 1 := ⟨k - 1, by omega⟩
    obtain ⟨m, m1, m2⟩ := law_l a b law N ha hb (by omega) h1 h2 p q k' (ar1 c d k' hc hk')
    have g := G_bd a b law N ha hb h2 (N + 1)
    rw [m2, if_neg (by omega), spec_EasiestLaw.l0, if_pos (by omega), sbend_t a b law N ha hb (by omega) h1 h2 k (ar2 c d k hc hk), b_wrap (law + 1) (by omega) (by omega)]
    simp only [Option.bind_some]
    split
    · exact ih (law + 1) _ _ k m (by omega) (by omega) g.1 (by omega) (by omega)
    · exact ih (law + 1) _ _ k m (by omega) (by omega) hq (by omega) (by omega)

theorem both_t (a b n : Int) : ∃ r, spec_EasiestLaw.f 4000 a b n = some r ∧ impl_EasiestLaw.f 4000 a b n = some r := by
  obtain ⟨k, hk, e⟩ : ∃ m : Nat, 3999 ≤ m ∧ (4000 : Nat) = m + 1 := ⟨3999, by omega, rfl⟩
  rw [e]
  clear e
  unfold spec_EasiestLaw.f impl_EasiestLaw.f spec_l02Asked.f impl_isShape.f spec_l02Law.f impl_isLaw.f spec_l01Lift.f impl_isLift.f
  simp only [spec_l00In_t, impl_inRange_t, Option.bind_some, show (0 : Int) ≤ 0 from Int.le_refl _, show (0 : Int) ≤ 3 by omega, true_and, decide_true, if_true, spec_EasiestLaw.j0, impl_EasiestLaw.j0]
  by_cases c2 : 1 ≤ n ∧ n ≤ 360
  · rw [decide_eq_true c2, decide_eq_true (show 0 ≤ n by omega)]
    simp only [if_true]
    by_cases c4 : 0 ≤ a ∧ a ≤ 10000
    · rw [decide_eq_true c4]
      simp only [if_true]
      by_cases c5 : 0 ≤ b ∧ b ≤ 10000
      · rw [decide_eq_true c5]
        simp only [Bool.not_true, Bool.false_eq_true, if_false]
        obtain ⟨N, rfl⟩ := Int.eq_ofNat_of_zero_le (show 0 ≤ n by omega)
        simp only [Option.bind_some, if_true]
        rw [sbend_t a b 0 N c4 c5 (by omega) (by omega) (by omega) k (by omega)]
        simp only [Option.bind_some]
        have g := G_bd a b 0 N c4 c5 (by omega) (N + 1)
        obtain ⟨m, m1, m2⟩ := law_l a b 0 N c4 c5 (by omega) (by omega) (by omega) 0 (-1) k (by omega)
        rw [m2, if_pos (by omega)]
        exact both_l a b N c4 c5 (by omega) (by omega) 1000 (Nat.le_refl _) 3 1 _ _ k m (by omega) (by omega) g.1 (by omega) (by omega)
      · rw [decide_eq_false c5]; exact ⟨(0, 0, 2), by simp⟩
    · rw [decide_eq_false c4]; exact ⟨(0, 0, 2), by simp⟩
  · rw [decide_eq_false c2]; exact ⟨(0, 0, 2), by simp⟩

theorem FnExactEasiestLaw : laws_FnExactEasiestLaw.Pure := by
  intro a b n _ _ _
  obtain ⟨r, h1, h2⟩ := both_t a b n
  refine ⟨4000, ?_⟩
  generalize (4000 : Nat) = k at *
  unfold laws_FnExactEasiestLaw.f
  rw [h1]; simp only [Option.bind_some]
  rw [h2]; simp

end Go.Proofs.Ytknbbmmmegajoaa.Pure
