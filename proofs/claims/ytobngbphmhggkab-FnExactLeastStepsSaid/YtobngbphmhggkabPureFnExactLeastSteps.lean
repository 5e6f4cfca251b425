/- The pure statement of the law FnExactLeastSteps is proved: for every input that the law speaks of, the law's function answers true. No conditions beyond the statement's own. -/
import Derived.Test.YtobngbphmhggkabFFnExactLeastStepsx
namespace Go.Proofs.Ytobngbphmhggkab.Pure
open Go.RowKit Go.Proofs.Ytobngbphmhggkab.FFnExactLeastSteps Go.Proofs.YtobngbphmhggkabW.PrintWords Go.Proofs.YtobngbphmhggkabW.PrintLast
set_option linter.unusedVariables false

theorem b_wrap (x : Int) (h : -9223372036854775808 ≤ x) (h' : x ≤ 9223372036854775807) : wrap64 x = x := by
  unfold wrap64; omega

theorem b_rd (l : List Int) (i : Nat) (h : i < l.length) : rd l (i : Int) = l[i] := by
  unfold rd; rw [List.getD_eq_getElem?_getD, Int.toNat_natCast, List.getElem?_eq_getElem h]; rfl

theorem b_take (l : List Int) (i : Nat) (h : i < l.length) : l.take (i + 1) = l.take i ++ [l[i]] := by
  rw [List.take_succ_eq_append_getElem h]

theorem b_set (x : List Int) (i : Nat) (v : Int) (h : i < x.length) : (x.set i v).take (i + 1) = x.take i ++ [v] := by
  have h' : i < (x.set i v).length := by rw [List.length_set]; exact h
  rw [List.take_succ_eq_append_getElem h', List.getElem_set_self, List.take_set_of_le (Nat.le_refl i)]
theorem impl_inRange_t (a b c : Int) : impl_inRange.f a b c = some (decide (b ≤ a ∧ a ≤ c)) := by
  unfold impl_inRange.f
  by_cases h : b ≤ a
  · rw [if_pos h]; simp [h]
  · rw [if_neg h]; simp [h]
theorem spec_l00In_t (a b c : Int) : spec_l00In.f a b c = some (decide (b ≤ a ∧ a ≤ c)) := by
  unfold spec_l00In.f
  by_cases h : b ≤ a
  · rw [if_pos h]; simp [h]
  · rw [if_neg h]; simp [h]
theorem floor_t (s n : Int) (hn : 0 < n) : (if Int.tmod s n < 0 then Int.tdiv s n - 1 else Int.tdiv s n) = s / n := by
  have e := Int.tmod_add_mul_tdiv s n
  have l1 := Int.tmod_lt_of_pos s hn
  have l2 : -n < Int.tmod s n := by
    by_cases h : 0 ≤ s
    · have := Int.tmod_nonneg n h; omega
    · have := Int.tmod_lt_of_pos (-s) hn
      rw [Int.neg_tmod] at this; omega
  have u := fun q r => (Int.ediv_emod_unique (a := s) (b := n) (r := r) (q := q) hn)
  by_cases h : Int.tmod s n < 0
  · rw [if_pos h]
    have m : n * (Int.tdiv s n - 1) = n * Int.tdiv s n - n := by rw [Int.mul_sub, Int.mul_one]
    exact ((u (Int.tdiv s n - 1) (Int.tmod s n + n)).mpr ⟨by omega, by omega, by omega⟩).1.symm
  · rw [if_neg h]
    exact ((u (Int.tdiv s n) (Int.tmod s n)).mpr ⟨by omega, by omega, by omega⟩).1.symm

theorem tdiv_bd (s n : Int) (hn : 0 < n) : (0 ≤ s → 0 ≤ Int.tdiv s n ∧ Int.tdiv s n ≤ s) ∧ (s ≤ 0 → s ≤ Int.tdiv s n ∧ Int.tdiv s n ≤ 0) := by
  constructor
  · intro h
    exact ⟨Int.tdiv_nonneg h (by omega), Int.tdiv_le_self n h⟩
  · intro h
    have a := Int.tdiv_nonneg (show 0 ≤ -s by omega) (show 0 ≤ n by omega)
    have b := Int.tdiv_le_self n (show 0 ≤ -s by omega)
    rw [Int.neg_tdiv] at a b; omega

theorem floorDiv_t (s n : Int) (hn : 0 < n) (hs : -1000000000000000000 ≤ s ∧ s ≤ 1000000000000000000) : impl_floorDiv.f s n = some (s / n) := by
  have t := tdiv_bd s n hn
  rw [← floor_t s n hn]
  unfold impl_floorDiv.f
  rw [if_neg (by omega), b_wrap (Int.tdiv s n) (by omega) (by omega), b_wrap (Int.tdiv s n - 1) (by omega) (by omega)]
  split <;> rfl
theorem mulb {x y X Y : Int} (h1 : 0 ≤ x) (h2 : x ≤ X) (h3 : 0 ≤ y) (h4 : y ≤ Y) : 0 ≤ x * y ∧ x * y ≤ X * Y :=
  ⟨Int.mul_nonneg h1 h3, Int.mul_le_mul h2 h4 h3 (by omega)⟩

/-- The fraction of a law: its whole. -/
def den (law n : Int) : Int := if law = 1 then n * n else if law = 2 then n * n * n else if law = 3 then n * n * n * n * n else n
/-- The fraction of a law: its part. -/
def num (law k n : Int) : Int :=
  if law = 1 then (if 2 * k ≤ n then 2 * k * k else n * n - 2 * (n - k) * (n - k))
  else if law = 2 then 3 * k * k * n - 2 * k * k * k
  else if law = 3 then k * k * k * (10 * n * n - 15 * k * n + 6 * k * k) else k

theorem den_bd (law n : Int) (h1 : 1 ≤ n) (h2 : n ≤ 360) : 1 ≤ den law n ∧ den law n ≤ 6046617600000 := by
  have a2 := mulb (show 0 ≤ n by omega) h2 (show 0 ≤ n by omega) h2
  have a3 := mulb a2.1 a2.2 (show 0 ≤ n by omega) h2
  have a4 := mulb a3.1 a3.2 (show 0 ≤ n by omega) h2
  have a5 := mulb a4.1 a4.2 (show 0 ≤ n by omega) h2
  have b2 : 1 ≤ n * n := Int.mul_pos (by omega) (by omega)
  have b3 : 1 ≤ n * n * n := Int.mul_pos (by omega) (by omega)
  have b4 : 1 ≤ n * n * n * n := Int.mul_pos (by omega) (by omega)
  have b5 : 1 ≤ n * n * n * n * n := Int.mul_pos (by omega) (by omega)
  unfold den; (repeat' split) <;> omega

theorem num_bd (law k n : Int) (h1 : 1 ≤ n) (h0 : 0 ≤ k) (hk : k ≤ n) : 0 ≤ num law k n ∧ num law k n ≤ den law n := by
  obtain ⟨a, rfl⟩ : ∃ a, n = k + a := ⟨n - k, by omega⟩
  have ha : 0 ≤ a := by omega
  have kk : 0 ≤ k * k := Int.mul_nonneg h0 h0
  have ka : 0 ≤ k * a := Int.mul_nonneg h0 ha
  have aa : 0 ≤ a * a := Int.mul_nonneg ha ha
  have kkk : 0 ≤ k * k * k := Int.mul_nonneg kk h0
  have aaa : 0 ≤ a * a * a := Int.mul_nonneg aa ha
  unfold num den
  by_cases c1 : law = 1
  · rw [if_pos c1, if_pos c1]
    by_cases c : 2 * k ≤ k + a
    · rw [if_pos c]
      have m : k * k ≤ k * a := Int.mul_le_mul_of_nonneg_left (by omega) h0
      have e1 : 2 * k * k = 2 * (k * k) := by grind
      have e2 : (k + a) * (k + a) = k * k + 2 * (k * a) + a * a := by grind
      rw [e1, e2]; omega
    · rw [if_neg c]
      have m : a * a ≤ k * a := Int.mul_le_mul_of_nonneg_right (by omega) ha
      have e2 : (k + a) * (k + a) - 2 * (k + a - k) * (k + a - k) = k * k + 2 * (k * a) - a * a := by grind
      have e3 : (k + a) * (k + a) = k * k + 2 * (k * a) + a * a := by grind
      rw [e2, e3]; omega
  · rw [if_neg c1, if_neg c1]
    by_cases c2 : law = 2
    · rw [if_pos c2, if_pos c2]
      have e1 : 3 * k * k * (k + a) - 2 * k * k * k = k * k * k + 3 * (k * k * a) := by grind
      have e2 : (k + a) * (k + a) * (k + a) = (k * k * k + 3 * (k * k * a)) + (a * a * a + 3 * (k * (a * a))) := by grind
      have p1 : 0 ≤ k * k * a := Int.mul_nonneg kk ha
      have p2 : 0 ≤ k * (a * a) := Int.mul_nonneg h0 aa
      rw [e1, e2]; omega
    · rw [if_neg c2, if_neg c2]
      by_cases c3 : law = 3
      · rw [if_pos c3, if_pos c3]
        have e0 : 10 * (k + a) * (k + a) - 15 * k * (k + a) + 6 * k * k = k * k + 5 * (k * a) + 10 * (a * a) := by grind
        have e2 : (k + a) * (k + a) * (k + a) * (k + a) * (k + a) = k * k * k * (k * k + 5 * (k * a) + 10 * (a * a)) + a * a * a * (a * a + 5 * (k * a) + 10 * (k * k)) := by grind
        have p1 : 0 ≤ k * k * k * (k * k + 5 * (k * a) + 10 * (a * a)) := Int.mul_nonneg kkk (by omega)
        have p2 : 0 ≤ a * a * a * (a * a + 5 * (k * a) + 10 * (k * k)) := Int.mul_nonneg aaa (by omega)
        rw [e0, e2]; omega
      · rw [if_neg c3, if_neg c3]; omega

theorem shape_t (law k n : Int) (hl : 0 ≤ law ∧ law ≤ 3) (h1 : 1 ≤ n) (h2 : n ≤ 360) (h0 : 0 ≤ k) (hk : k ≤ n) :
    spec_l02Shape.f law k n = some (num law k n, den law n) ∧ impl_shape.f law k n = some (num law k n, den law n) := by
  have nn := mulb (show 0 ≤ n by omega) h2 (show 0 ≤ n by omega) h2
  have nnn := mulb nn.1 nn.2 (show 0 ≤ n by omega) h2
  have n4 := mulb nnn.1 nnn.2 (show 0 ≤ n by omega) h2
  have n5 := mulb n4.1 n4.2 (show 0 ≤ n by omega) h2
  have kk := mulb h0 (show k ≤ 360 by omega) h0 (show k ≤ 360 by omega)
  have kn := mulb h0 (show k ≤ 360 by omega) (show 0 ≤ n by omega) h2
  have kkn := mulb kk.1 kk.2 (show 0 ≤ n by omega) h2
  have kkk := mulb kk.1 kk.2 h0 (show k ≤ 360 by omega)
  have e1 : 2 * k * k = 2 * (k * k) := by grind
  have dd := mulb (show 0 ≤ n - k by omega) (show n - k ≤ 360 by omega) (show 0 ≤ n - k by omega) (show n - k ≤ 360 by omega)
  have e2 : 2 * (n - k) * (n - k) = 2 * ((n - k) * (n - k)) := by grind
  have e3 : 3 * k * k = 3 * (k * k) := by grind
  have e4 : 3 * (k * k) * n = 3 * (k * k * n) := by grind
  have e5 : 2 * (k * k) * k = 2 * (k * k * k) := by grind
  have e6 : 10 * n * n = 10 * (n * n) := by grind
  have e7 : 15 * k * n = 15 * (k * n) := by grind
  have e8 : 6 * k * k = 6 * (k * k) := by grind
  have hb := num_bd law k n h1 h0 hk
  have db := den_bd law n h1 h2
  rcases (by omega : law = 0 ∨ law = 1 ∨ law = 2 ∨ law = 3) with h | h | h | h
  · subst h
    unfold spec_l02Shape.f impl_shape.f num den; simp
  · subst h
    simp only [num, den, if_true] at hb db ⊢
    unfold spec_l02Shape.f impl_shape.f
    simp only [if_true, show ¬ ((1 : Int) = 0) by omega, if_false]
    rw [b_wrap (2 * k) (by omega) (by omega), b_wrap (2 * k * k) (by omega) (by omega), b_wrap (n * n) (by omega) (by omega), b_wrap (n - k) (by omega) (by omega), b_wrap (2 * (n - k)) (by omega) (by omega), b_wrap (2 * (n - k) * (n - k)) (by omega) (by omega), b_wrap (n * n - 2 * (n - k) * (n - k)) (by omega) (by omega)]
    constructor <;> split <;> rfl
  · subst h
    simp only [num, den, if_true, show ¬ ((2 : Int) = 1) by omega, if_false] at hb db ⊢
    unfold spec_l02Shape.f impl_shape.f
    simp only [if_true, show ¬ ((2 : Int) = 0) by omega, show ¬ ((2 : Int) = 1) by omega, if_false]
    rw [b_wrap (3 * k) (by omega) (by omega), b_wrap (3 * k * k) (by omega) (by omega), b_wrap (2 * k) (by omega) (by omega), b_wrap (2 * k * k) (by omega) (by omega), e3, e1, e4, e5, b_wrap (3 * (k * k * n)) (by omega) (by omega), b_wrap (2 * (k * k * k)) (by omega) (by omega), b_wrap (3 * (k * k * n) - 2 * (k * k * k)) (by omega) (by omega), b_wrap (n * n) (by omega) (by omega), b_wrap (n * n * n) (by omega) (by omega)]
    exact ⟨rfl, rfl⟩
  · subst h
    simp only [num, den, if_true, show ¬ ((3 : Int) = 1) by omega, show ¬ ((3 : Int) = 2) by omega, if_false] at hb db ⊢
    unfold spec_l02Shape.f impl_shape.f
    simp only [if_true, show ¬ ((3 : Int) = 0) by omega, show ¬ ((3 : Int) = 1) by omega, show ¬ ((3 : Int) = 2) by omega, if_false]
    rw [b_wrap (k * k) (by omega) (by omega), b_wrap (k * k * k) (by omega) (by omega), b_wrap (10 * n) (by omega) (by omega), b_wrap (15 * k) (by omega) (by omega), b_wrap (6 * k) (by omega) (by omega), b_wrap (10 * n * n) (by omega) (by omega), b_wrap (15 * k * n) (by omega) (by omega), b_wrap (6 * k * k) (by omega) (by omega), b_wrap (10 * n * n - 15 * k * n) (by omega) (by omega), b_wrap (10 * n * n - 15 * k * n + 6 * k * k) (by omega) (by omega), b_wrap (k * k * k * _) (by omega) (by omega), b_wrap (n * n) (by omega) (by omega), b_wrap (n * n * n) (by omega) (by omega), b_wrap (n * n * n * n) (by omega) (by omega), b_wrap (n * n * n * n * n) (by omega) (by omega)]
    exact ⟨rfl, rfl⟩

/-- The lift behind k of n steps. -/
def lift (a b law k n : Int) : Int := (2 * (a * den law n + (b - a) * num law k n) + den law n) / (2 * den law n)

theorem near_t (x d : Int) (hd : 1 ≤ d) (hd' : d ≤ 10000000000000) (hx : -2000000000000000000 ≤ x ∧ x ≤ 2000000000000000000) :
    spec_l01Near.f x d = some ((2 * x + d) / (2 * d)) ∧ impl_nearest.f x d = some ((2 * x + d) / (2 * d)) := by
  have t := tdiv_bd (2 * x + d) (2 * d) (by omega)
  have f := floor_t (2 * x + d) (2 * d) (by omega)
  unfold spec_l01Near.f impl_nearest.f impl_floorDiv.f
  rw [b_wrap (2 * x) (by omega) (by omega), b_wrap (2 * d) (by omega) (by omega), b_wrap (2 * x + d) (by omega) (by omega), b_wrap (Int.tdiv _ _) (by omega) (by omega), b_wrap (_ - 1) (by omega) (by omega), if_neg (by omega), ← f]
  constructor
  · split <;> rfl
  · split <;> rfl

theorem mid_bd (a b law k n : Int) (ha : 0 ≤ a ∧ a ≤ 10000) (hb : 0 ≤ b ∧ b ≤ 10000) (h1 : 1 ≤ n) (h2 : n ≤ 360) (h0 : 0 ≤ k) (hk : k ≤ n) :
    (0 ≤ a * den law n ∧ a * den law n ≤ 60466176000000000) ∧ (-60466176000000000 ≤ (b - a) * num law k n ∧ (b - a) * num law k n ≤ 60466176000000000) := by
  have d := den_bd law n h1 h2
  have m := num_bd law k n h1 h0 hk
  have p := mulb ha.1 ha.2 (show 0 ≤ den law n by omega) d.2
  refine ⟨by omega, ?_⟩
  by_cases c : a ≤ b
  · have q := mulb (show 0 ≤ b - a by omega) (show b - a ≤ 10000 by omega) m.1 (show num law k n ≤ 6046617600000 by omega)
    omega
  · have q := mulb (show 0 ≤ a - b by omega) (show a - b ≤ 10000 by omega) m.1 (show num law k n ≤ 6046617600000 by omega)
    have e : (b - a) * num law k n = -((a - b) * num law k n) := by grind
    omega

theorem liftIn_t (a b law k n : Int) (ha : 0 ≤ a ∧ a ≤ 10000) (hb : 0 ≤ b ∧ b ≤ 10000) (hl : 0 ≤ law ∧ law ≤ 3) (h1 : 1 ≤ n) (h2 : n ≤ 360) (h0 : 0 ≤ k) (hk : k ≤ n) :
    spec_l02Lift.f a b law k n = some (lift a b law k n) ∧ impl_liftIn.f a b law k n = some (lift a b law k n) := by
  have d := den_bd law n h1 h2
  have m := mid_bd a b law k n ha hb h1 h2 h0 hk
  have s := shape_t law k n hl h1 h2 h0 hk
  have t := near_t (a * den law n + (b - a) * num law k n) (den law n) (by omega) (by omega) (by omega)
  unfold spec_l02Lift.f impl_liftIn.f
  rw [s.1, s.2]; simp only [Option.bind_some]
  rw [b_wrap (b - a) (by omega) (by omega), b_wrap (a * den law n) (by omega) (by omega), b_wrap ((b - a) * num law k n) (by omega) (by omega), b_wrap (_ + _) (by omega) (by omega), t.1, t.2]
  exact ⟨rfl, rfl⟩

/-- The lift lies between those of the motion. -/
theorem lift_bd (a b law k n : Int) (h1 : 1 ≤ n) (h2 : n ≤ 360) (h0 : 0 ≤ k) (hk : k ≤ n) : (a ≤ b → a ≤ lift a b law k n ∧ lift a b law k n ≤ b) ∧ (b ≤ a → b ≤ lift a b law k n ∧ lift a b law k n ≤ a) := by
  have d := den_bd law n h1 h2
  have m := num_bd law k n h1 h0 hk
  unfold lift
  generalize den law n = D at *
  generalize num law k n = M at *
  have key : ∀ z : Int, (2 * z ≤ 2 * (a * D + (b - a) * M) + D → True) → True := fun _ _ => trivial
  constructor
  · intro hab
    have q := Int.mul_le_mul_of_nonneg_left m.2 (show 0 ≤ b - a by omega)
    have q0 := Int.mul_nonneg (show 0 ≤ b - a by omega) m.1
    have e : (b - a) * D = b * D - a * D := by grind
    constructor
    · rw [Int.le_ediv_iff_mul_le (by omega)]
      have e1 : a * (2 * D) = 2 * (a * D) := by grind
      omega
    · have : (2 * (a * D + (b - a) * M) + D) / (2 * D) < b + 1 := by
        rw [Int.ediv_lt_iff_lt_mul (by omega)]
        have e1 : (b + 1) * (2 * D) = 2 * (b * D) + 2 * D := by grind
        omega
      omega
  · intro hab
    have q := Int.mul_le_mul_of_nonneg_left m.2 (show 0 ≤ a - b by omega)
    have q0 := Int.mul_nonneg (show 0 ≤ a - b by omega) m.1
    have e : (a - b) * D = a * D - b * D := by grind
    have e' : (b - a) * M = -((a - b) * M) := by grind
    constructor
    · rw [Int.le_ediv_iff_mul_le (by omega)]
      have e1 : b * (2 * D) = 2 * (b * D) := by grind
      omega
    · have : (2 * (a * D + (b - a) * M) + D) / (2 * D) < a + 1 := by
        rw [Int.ediv_lt_iff_lt_mul (by omega)]
        have e1 : (a + 1) * (2 * D) = 2 * (a * D) + 2 * D := by grind
        omega
      omega

theorem b_rdN (x : List Int) (j : Nat) : rd x (j : Int) = x.getD j 0 := by unfold rd; rw [Int.toNat_natCast]

def sz (x : Int) : Int := if x < 0 then -x else x

theorem size_t (x : Int) (h : -1000000 ≤ x ∧ x ≤ 1000000) : spec_l01Size.f x = some (sz x) ∧ impl_abs.f x = some (sz x) := by
  unfold spec_l01Size.f impl_abs.f mx sz
  rw [b_wrap (-x) (by omega) (by omega)]
  constructor
  · split <;> rfl
  · congr 1; split <;> split <;> omega

theorem getD_snoc (x : List Int) (v : Int) (j : Nat) : (x ++ [v]).getD j 0 = if j < x.length then x.getD j 0 else if j = x.length then v else 0 := by
  rw [List.getD_eq_getElem?_getD, List.getElem?_append]
  split
  · rw [← List.getD_eq_getElem?_getD]
  · by_cases e : j = x.length
    · subst e; simp
    · rw [if_neg e, List.getElem?_eq_none (by simp; omega)]; rfl

theorem greatest_l (c : List Int) (hc : c.length ≤ 1000) (hb : ∀ j, j < c.length → -1000000 ≤ c.getD j 0 ∧ c.getD j 0 ≤ 1000000) (d : Nat) : ∀ (k i : Nat) (at' s : Int), c.length - i = d → d < k →
    ∃ q, impl_greatest.l0 k at' s c (c.length : Int) (i : Int) = some q ∧ ∀ m, q.2 ≤ m ↔ s ≤ m ∧ ∀ j, i ≤ j → j < c.length → sz (c.getD j 0) ≤ m := by
  induction d with
  | zero =>
    intro k i at' s hd hk
    obtain ⟨k, rfl⟩ : ∃ m, k = m + 1 := ⟨k - 1, by omega⟩
    refine ⟨(at', s), ?_, fun m => ⟨fun h => ⟨h, fun j h1 h2 => by omega⟩, fun h => h.1⟩⟩
    simp only [impl_greatest.l0]; rw [if_neg (by omega)]
  | succ d ih =>
    intro k i at' s hd hk
    obtain ⟨k, rfl⟩ : ∃ m, k = m + 1 := ⟨k - 1, by omega⟩
    have p1 : (i : Int) < (c.length : Int) := by omega
    have p2 : 0 ≤ (i : Int) := by omega
    have w : wrap64 ((i : Int) + 1) = ((i + 1 : Nat) : Int) := by rw [b_wrap _ (by omega) (by omega)]; omega
    simp only [impl_greatest.l0, if_pos p1, if_pos p2, b_rdN, (size_t _ (hb i (by omega))).2, Option.bind_some, w]
    have fin : ∀ (s' : Int) (q : Int × Int), (s' = s ∧ sz (c.getD i 0) ≤ s ∨ s' = sz (c.getD i 0) ∧ s < s') → (∀ m, q.2 ≤ m ↔ s' ≤ m ∧ ∀ j, i + 1 ≤ j → j < c.length → sz (c.getD j 0) ≤ m) → ∀ m, q.2 ≤ m ↔ s ≤ m ∧ ∀ j, i ≤ j → j < c.length → sz (c.getD j 0) ≤ m := by
      intro s' q hs hq m
      rw [hq m]
      constructor
      · rintro ⟨h1, h2⟩
        refine ⟨by omega, fun j q1 q2 => ?_⟩
        by_cases e : j = i
        · subst e; omega
        · exact h2 j (by omega) q2
      · rintro ⟨h1, h2⟩
        have := h2 i (Nat.le_refl _) (by omega)
        exact ⟨by omega, fun j q1 q2 => h2 j (by omega) q2⟩
    by_cases e : sz (c.getD i 0) > s
    · rw [if_pos e]
      obtain ⟨q, q1, q2⟩ := ih k (i + 1) (i : Int) (sz (c.getD i 0)) (by omega) (by omega)
      exact ⟨q, q1, fin _ q (Or.inr ⟨rfl, e⟩) q2⟩
    · rw [if_neg e]
      obtain ⟨q, q1, q2⟩ := ih k (i + 1) at' s (by omega) (by omega)
      exact ⟨q, q1, fin _ q (Or.inl ⟨rfl, by omega⟩) q2⟩

theorem lf_bd (law rise : Int) (_ : 0 ≤ law ∧ law ≤ 3) (hr : 0 ≤ rise ∧ rise ≤ 10000) (n : Nat) (h1 : 1 ≤ n) (h2 : n ≤ 360) (j : Nat) (hj : j ≤ n) : 0 ≤ lift 0 rise law (j : Int) (n : Int) ∧ lift 0 rise law (j : Int) (n : Int) ≤ rise :=
  (lift_bd 0 rise law (j : Int) (n : Int) (by omega) (by omega) (by omega) (by omega)).1 (by omega)

section steps
variable (law rise : Int) (hl : 0 ≤ law ∧ law ≤ 3) (hr : 0 ≤ rise ∧ rise ≤ 10000) (n : Nat) (h1 : 1 ≤ n) (h2 : n ≤ 360)
include hl hr h1 h2

theorem lifts_l (d : Nat) : ∀ (k i : Nat) (x : List Int), n + 1 - i = d → i ≤ n + 1 → d < k → x.length = i → (∀ j, j < i → x.getD j 0 = lift 0 rise law (j : Int) (n : Int)) →
    ∃ v, spec_l02Lifts.l0 k 0 rise law (n : Int) x (i : Int) = some v ∧ v.length = n + 1 ∧ ∀ j, j < n + 1 → v.getD j 0 = lift 0 rise law (j : Int) (n : Int) := by
  induction d with
  | zero =>
    intro k i x hd hi hk hx hv
    obtain ⟨k, rfl⟩ : ∃ m, k = m + 1 := ⟨k - 1, by omega⟩
    refine ⟨x, ?_, by omega, fun j hj => hv j (by omega)⟩
    simp only [spec_l02Lifts.l0]; rw [if_neg (by omega)]
  | succ d ih =>
    intro k i x hd hi hk hx hv
    obtain ⟨k, rfl⟩ : ∃ m, k = m + 1 := ⟨k - 1, by omega⟩
    have t := (liftIn_t 0 rise law (i : Int) (n : Int) (by omega) hr hl (by omega) (by omega) (by omega) (by omega)).1
    simp only [spec_l02Lifts.l0]
    rw [if_pos (by omega), t]; simp only [Option.bind_some]
    rw [if_pos (by omega), b_wrap _ (by omega) (by omega), show ((i : Int) + 1) = ((i + 1 : Nat) : Int) by omega]
    refine ih k (i + 1) _ (by omega) (by omega) (by omega) (by simp [hx]) (fun j hj => ?_)
    rw [getD_snoc]
    by_cases c : j < x.length
    · rw [if_pos c]; exact hv j (by omega)
    · rw [if_neg c, if_pos (by omega), show j = i by omega]

theorem changes_l (d : Nat) : ∀ (k i : Nat) (x : List Int), n - i = d → i ≤ n → d < k → x.length = i → (∀ j : Nat, j < i → x.getD j 0 = lift 0 rise law ((j : Int) + 1) (n : Int) - lift 0 rise law (j : Int) (n : Int)) →
    ∃ v, impl_changesIn.l0 k 0 rise law (n : Int) x (n : Int) (i : Int) = some v ∧ v.length = n ∧ ∀ j : Nat, j < n → v.getD j 0 = lift 0 rise law ((j : Int) + 1) (n : Int) - lift 0 rise law (j : Int) (n : Int) := by
  induction d with
  | zero =>
    intro k i x hd hi hk hx hv
    obtain ⟨k, rfl⟩ : ∃ m, k = m + 1 := ⟨k - 1, by omega⟩
    refine ⟨x, ?_, by omega, fun j hj => hv j (by omega)⟩
    simp only [impl_changesIn.l0]; rw [if_neg (by omega)]
  | succ d ih =>
    intro k i x hd hi hk hx hv
    obtain ⟨k, rfl⟩ : ∃ m, k = m + 1 := ⟨k - 1, by omega⟩
    have t := (liftIn_t 0 rise law (i : Int) (n : Int) (by omega) hr hl (by omega) (by omega) (by omega) (by omega)).2
    have t1 := (liftIn_t 0 rise law ((i : Int) + 1) (n : Int) (by omega) hr hl (by omega) (by omega) (by omega) (by omega)).2
    have b := lf_bd law rise hl hr n h1 h2 i (by omega)
    have b1 := lf_bd law rise hl hr n h1 h2 (i + 1) (by omega)
    rw [show ((i + 1 : Nat) : Int) = (i : Int) + 1 by omega] at b1
    simp only [impl_changesIn.l0]
    rw [if_pos (by omega), b_wrap ((i : Int) + 1) (by omega) (by omega), t1]; simp only [Option.bind_some]
    rw [t]; simp only [Option.bind_some]
    rw [if_pos (by omega), b_wrap (_ - _) (by omega) (by omega)]
    have := ih k (i + 1) (x ++ [lift 0 rise law ((i : Int) + 1) (n : Int) - lift 0 rise law (i : Int) (n : Int)]) (by omega) (by omega) (by omega) (by simp [hx]) (fun j hj => by
      rw [getD_snoc]
      by_cases c : j < x.length
      · rw [if_pos c]; exact hv j (by omega)
      · rw [if_neg c, if_pos (by omega), show j = i by omega])
    rw [show ((i + 1 : Nat) : Int) = (i : Int) + 1 by omega] at this
    exact this

/-- Whether all changes are within the bound. -/
def Fine (most : Int) (i : Nat) : Prop := ∀ j : Nat, i ≤ j → j < n → sz (lift 0 rise law ((j : Int) + 1) (n : Int) - lift 0 rise law (j : Int) (n : Int)) ≤ most

open Classical in
theorem test_l (most : Int) (v : List Int) (hv : v.length = n + 1) (hv' : ∀ j, j < n + 1 → v.getD j 0 = lift 0 rise law (j : Int) (n : Int)) (r : Int × Int) (N : Nat) (hr' : ∀ k, N ≤ k → spec_LeastSteps.l0 k law rise most ((n : Int) + 1) = some r)
    (d : Nat) : ∀ (k i : Nat) (ok : Bool), n - i = d → i ≤ n → N + d < k → spec_LeastSteps.l1 k law rise most (n : Int) v ok (i : Int) = some (if ok = true ∧ Fine law rise n most i then ((n : Int), 0) else r) := by
  induction d with
  | zero =>
    intro k i ok hd hi hk
    obtain ⟨k, rfl⟩ : ∃ m, k = m + 1 := ⟨k - 1, by omega⟩
    have hf : Fine law rise n most i := fun j a b => by omega
    simp only [spec_LeastSteps.l1]
    rw [b_wrap ((v.length : Int) - 1) (by omega) (by omega), if_neg (by omega), b_wrap ((n : Int) + 1) (by omega) (by omega), hr' k (by omega)]
    cases ok <;> simp [hf]
  | succ d ih =>
    intro k i ok hd hi hk
    obtain ⟨k, rfl⟩ : ∃ m, k = m + 1 := ⟨k - 1, by omega⟩
    have b := lf_bd law rise hl hr n h1 h2 i (by omega)
    have b1 := lf_bd law rise hl hr n h1 h2 (i + 1) (by omega)
    have g := hv' i (by omega)
    have g1 := hv' (i + 1) (by omega)
    simp only [spec_LeastSteps.l1]
    rw [b_wrap ((v.length : Int) - 1) (by omega) (by omega), if_pos (by omega), b_wrap ((i : Int) + 1) (by omega) (by omega), show ((i : Int) + 1) = ((i + 1 : Nat) : Int) by omega]
    cases ok with
    | false =>
      rw [if_neg (by simp), ih k (i + 1) false (by omega) (by omega) (by omega)]
      simp
    | true =>
      have hsz : -1000000 ≤ v.getD (i + 1) 0 - v.getD i 0 ∧ v.getD (i + 1) 0 - v.getD i 0 ≤ 1000000 := by rw [g, g1]; omega
      rw [if_pos rfl, if_pos (by omega), if_pos (by omega), if_pos (by omega), if_pos (by omega), b_rdN, b_rdN, b_wrap _ (by omega) (by omega), (size_t _ hsz).1]; simp only [Option.bind_some]
      rw [ih k (i + 1) _ (by omega) (by omega) (by omega), g, g1]
      congr 2
      simp only [decide_eq_true_eq, true_and]
      apply propext
      constructor
      · rintro ⟨q1, q2⟩ j a c
        by_cases e : j = i
        · subst e; exact q1
        · exact q2 j (by omega) c
      · intro q
        exact ⟨q i (Nat.le_refl _) (by omega), fun j a c => q j (by omega) c⟩

end steps

theorem both_l (law rise most : Int) (hl : 0 ≤ law ∧ law ≤ 3) (hr : 1 ≤ rise ∧ rise ≤ 10000) (hm : 1 ≤ most) (d : Nat) : ∀ (n : Nat), 1 ≤ n → n ≤ 361 → 361 - n = d →
    ∃ (r : Int × Int) (N : Nat), ∀ k, N ≤ k → spec_LeastSteps.l0 k law rise most (n : Int) = some r ∧ impl_LeastSteps.l0 k law rise most (n : Int) = some r := by
  induction d with
  | zero =>
    intro n h1 h2 hd
    refine ⟨(0, 6), 1, fun k hk => ?_⟩
    obtain ⟨k, rfl⟩ : ∃ m, k = m + 1 := ⟨k - 1, by omega⟩
    simp only [spec_LeastSteps.l0, impl_LeastSteps.l0]
    rw [if_neg (by omega), if_neg (by omega)]; exact ⟨rfl, rfl⟩
  | succ d ih =>
    intro n h1 h2 hd
    obtain ⟨r, N, hN⟩ := ih (n + 1) (by omega) (by omega) (by omega)
    rw [show ((n + 1 : Nat) : Int) = (n : Int) + 1 by omega] at hN
    obtain ⟨v, v1, v2, v3⟩ := lifts_l law rise hl (by omega) n h1 (by omega) (n + 1) 400 0 [] (by omega) (by omega) (by omega) rfl (fun j hj => by omega)
    obtain ⟨c, c1, c2, c3⟩ := changes_l law rise hl (by omega) n h1 (by omega) n 400 0 [] (by omega) (by omega) (by omega) rfl (fun j hj => by omega)
    have cb : ∀ j, j < c.length → -1000000 ≤ c.getD j 0 ∧ c.getD j 0 ≤ 1000000 := by
      intro j hj
      have b := lf_bd law rise hl (by omega) n h1 (by omega) j (by omega)
      have b1 := lf_bd law rise hl (by omega) n h1 (by omega) (j + 1) (by omega)
      rw [show ((j + 1 : Nat) : Int) = (j : Int) + 1 by omega] at b1
      rw [c3 j (by omega)]; omega
    obtain ⟨q, q1, q2⟩ := greatest_l c (by omega) cb c.length 400 0 0 (-1) (by omega) (by omega)
    have hq : q.2 ≤ most ↔ Fine law rise n most 0 := by
      rw [q2 most]
      constructor
      · rintro ⟨_, h⟩ j a b
        rw [← c3 j b]; exact h j a (by omega)
      · intro h
        refine ⟨by omega, fun j a b => ?_⟩
        rw [c3 j (by omega)]; exact h j a (by omega)
    classical
    refine ⟨if Fine law rise n most 0 then ((n : Int), 0) else r, N + 1000, fun k hk => ?_⟩
    obtain ⟨k, rfl⟩ : ∃ m, k = m + 1 := ⟨k - 1, by omega⟩
    have v1' := at_rounds (fun k => spec_l02Lifts.mono_l k 0 rise law (n : Int) [] ((0 : Nat) : Int)) (show 400 ≤ k by omega) v1
    have c1' := at_rounds (fun k => impl_changesIn.mono_l k 0 rise law (n : Int) [] (n : Int) ((0 : Nat) : Int)) (show 400 ≤ k by omega) c1
    have q1' := at_rounds (fun k => impl_greatest.mono_l k 0 (-1) c (c.length : Int) ((0 : Nat) : Int)) (show 400 ≤ k by omega) q1
    have tst := test_l law rise hl (by omega) n h1 (by omega) most v v2 v3 r N (fun k hk => (hN k hk).1) n k 0 true (by omega) (by omega) (by omega)
    constructor
    · simp only [spec_LeastSteps.l0]
      rw [if_pos (by omega)]
      unfold spec_l02Lifts.f
      rw [show spec_l02Lifts.l0 k 0 rise law (n : Int) [] 0 = some v from v1']; simp only [Option.bind_some]
      rw [show spec_LeastSteps.l1 k law rise most (n : Int) v true 0 = _ from tst]
      simp
    · simp only [impl_LeastSteps.l0]
      rw [if_pos (by omega)]
      unfold impl_changesIn.f impl_greatest.f
      rw [show impl_changesIn.l0 k 0 rise law (n : Int) [] (n : Int) 0 = some c from c1']; simp only [Option.bind_some]
      rw [show impl_greatest.l0 k 0 (-1) c (c.length : Int) 0 = some q from q1']; simp only [Option.bind_some]
      by_cases e : q.2 ≤ most
      · rw [if_pos e, if_pos (hq.mp e)]
      · rw [if_neg e, if_neg (fun h => e (hq.mpr h)), b_wrap _ (by omega) (by omega)]; exact (hN k (by omega)).2

theorem FnExactLeastSteps : laws_FnExactLeastSteps.Pure := by
  intro law rise most _ _ _
  have hs : ∃ (q : Int × Int) (N : Nat), ∀ k, N ≤ k → spec_LeastSteps.f k law rise most = some q ∧ impl_LeastSteps.f k law rise most = some q := by
    unfold spec_LeastSteps.f impl_LeastSteps.f spec_l02Law.f impl_isLaw.f
    simp only [spec_l00In_t, impl_inRange_t, Option.bind_some]
    have no : ∀ k, 1 ≤ k → spec_LeastSteps.j0 k law rise most true = some (0, 2) ∧ impl_LeastSteps.j0 k law rise most true = some (0, 2) := by
      intro k hk
      obtain ⟨k, rfl⟩ : ∃ m, k = m + 1 := ⟨k - 1, by omega⟩
      simp only [spec_LeastSteps.j0, impl_LeastSteps.j0, if_true]
      exact ⟨trivial, trivial⟩
    by_cases c1 : 0 ≤ law ∧ law ≤ 3
    · by_cases c2 : 1 ≤ rise ∧ rise ≤ 10000
      · by_cases c3 : 1 ≤ most ∧ most ≤ 10000
        · obtain ⟨r, N, hN⟩ := both_l law rise most c1 c2 c3.1 360 1 (by omega) (by omega) (by omega)
          refine ⟨r, N + 1, fun k hk => ?_⟩
          obtain ⟨k, rfl⟩ : ∃ m, k = m + 1 := ⟨k - 1, by omega⟩
          have h := hN k (by omega)
          simp only [decide_eq_true c1, decide_eq_true c2, decide_eq_true c3, if_true, Bool.not_true, spec_LeastSteps.j0, impl_LeastSteps.j0, Bool.false_eq_true, if_false]
          exact h
        · exact ⟨(0, 2), 1, fun k hk => by simp only [decide_eq_true c1, decide_eq_true c2, decide_eq_false c3, if_true, Bool.not_false]; exact no k hk⟩
      · exact ⟨(0, 2), 1, fun k hk => by simp only [decide_eq_true c1, decide_eq_false c2, if_true, Bool.false_eq_true, if_false]; exact no k hk⟩
    · exact ⟨(0, 2), 1, fun k hk => by simp only [decide_eq_false c1, Bool.false_eq_true, if_false]; exact no k hk⟩
  obtain ⟨q, N, h⟩ := hs
  refine ⟨N, ?_⟩
  unfold laws_FnExactLeastSteps.f
  rw [(h N (Nat.le_refl _)).1]; simp only [Option.bind_some]
  rw [(h N (Nat.le_refl _)).2]; simp

end Go.Proofs.Ytobngbphmhggkab.Pure
