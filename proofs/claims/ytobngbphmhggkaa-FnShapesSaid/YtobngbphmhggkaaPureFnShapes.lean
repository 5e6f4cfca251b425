/- The pure statement of the law FnShapes is proved: the shape of every law goes from 0 to 1 and the lifts in it go from one to the other, never back, and are the same when read backwards. No conditions beyond the statement's own. -/
import Derived.Test.YtobngbphmhggkaaFFnShapesx
namespace Go.Proofs.Ytobngbphmhggkaa.Pure
open Go.RowKit Go.Proofs.Ytobngbphmhggkaa.FFnShapes Go.Proofs.YtobngbphmhggkaaW.PrintWords Go.Proofs.YtobngbphmhggkaaW.PrintLast
set_option linter.unusedVariables false

theorem b_wrap (x : Int) (h : -9223372036854775808 ≤ x) (h' : x ≤ 9223372036854775807) : wrap64 x = x := by
  unfold wrap64; omega

theorem b_rd (l : List Int) (i : Nat) (h : i < l.length) : rd l (i : Int) = l[i] := by
  unfold rd; rw [List.getD_eq_getElem?_getD, Int.toNat_natCast, List.getElem?_eq_getElem h]; rfl

theorem b_take (l : List Int) (i : Nat) (h : i < l.length) : l.take (i + 1) = l.take i ++ [l[i]] := by
  rw [List.take_succ_eq_append_getElem h]

theorem b_set (x : List Int) (i : Nat) (v : Int) (h : i < x.length) : (x.set i v).take (i + 1) = x.take i ++ [v] := by
  have h' : i < (x.set i v).length := by rw [List.length_set]; exact h
  rw [List.take_succ_eq_append_getElem h', List.getElem_set_self, List.take_set_of_le (Nat.le_refl i)]
theorem impl_inRange_t (a b c : Int) : impl_inRange.f a b c = some (decide (b ≤ a ∧ a ≤ c)) := by
  unfold impl_inRange.f
  by_cases h : b ≤ a
  · rw [if_pos h]; simp [h]
  · rw [if_neg h]; simp [h]
theorem spec_l00In_t (a b c : Int) : spec_l00In.f a b c = some (decide (b ≤ a ∧ a ≤ c)) := by
  unfold spec_l00In.f
  by_cases h : b ≤ a
  · rw [if_pos h]; simp [h]
  · rw [if_neg h]; simp [h]
theorem floor_t (s n : Int) (hn : 0 < n) : (if Int.tmod s n < 0 then Int.tdiv s n - 1 else Int.tdiv s n) = s / n := by
  have e := Int.tmod_add_mul_tdiv s n
  have l1 := Int.tmod_lt_of_pos s hn
  have l2 : -n < Int.tmod s n := by
    by_cases h : 0 ≤ s
    · have := Int.tmod_nonneg n h; omega
    · have := Int.tmod_lt_of_pos (-s) hn
      rw [Int.neg_tmod] at this; omega
  have u := fun q r => (Int.ediv_emod_unique (a := s) (b := n) (r := r) (q := q) hn)
  by_cases h : Int.tmod s n < 0
  · rw [if_pos h]
    have m : n * (Int.tdiv s n - 1) = n * Int.tdiv s n - n := by rw [Int.mul_sub, Int.mul_one]
    exact ((u (Int.tdiv s n - 1) (Int.tmod s n + n)).mpr ⟨by omega, by omega, by omega⟩).1.symm
  · rw [if_neg h]
    exact ((u (Int.tdiv s n) (Int.tmod s n)).mpr ⟨by omega, by omega, by omega⟩).1.symm

theorem tdiv_bd (s n : Int) (hn : 0 < n) : (0 ≤ s → 0 ≤ Int.tdiv s n ∧ Int.tdiv s n ≤ s) ∧ (s ≤ 0 → s ≤ Int.tdiv s n ∧ Int.tdiv s n ≤ 0) := by
  constructor
  · intro h
    exact ⟨Int.tdiv_nonneg h (by omega), Int.tdiv_le_self n h⟩
  · intro h
    have a := Int.tdiv_nonneg (show 0 ≤ -s by omega) (show 0 ≤ n by omega)
    have b := Int.tdiv_le_self n (show 0 ≤ -s by omega)
    rw [Int.neg_tdiv] at a b; omega

theorem floorDiv_t (s n : Int) (hn : 0 < n) (hs : -1000000000000000000 ≤ s ∧ s ≤ 1000000000000000000) : impl_floorDiv.f s n = some (s / n) := by
  have t := tdiv_bd s n hn
  rw [← floor_t s n hn]
  unfold impl_floorDiv.f
  rw [if_neg (by omega), b_wrap (Int.tdiv s n) (by omega) (by omega), b_wrap (Int.tdiv s n - 1) (by omega) (by omega)]
  split <;> rfl
theorem mulb {x y X Y : Int} (h1 : 0 ≤ x) (h2 : x ≤ X) (h3 : 0 ≤ y) (h4 : y ≤ Y) : 0 ≤ x * y ∧ x * y ≤ X * Y :=
  ⟨Int.mul_nonneg h1 h3, Int.mul_le_mul h2 h4 h3 (by omega)⟩

/-- The fraction of a law: its whole. -/
def den (law n : Int) : Int := if law = 1 then n * n else if law = 2 then n * n * n else if law = 3 then n * n * n * n * n else n
/-- The fraction of a law: its part. -/
def num (law k n : Int) : Int :=
  if law = 1 then (if 2 * k ≤ n then 2 * k * k else n * n - 2 * (n - k) * (n - k))
  else if law = 2 then 3 * k * k * n - 2 * k * k * k
  else if law = 3 then k * k * k * (10 * n * n - 15 * k * n + 6 * k * k) else k

theorem den_bd (law n : Int) (h1 : 1 ≤ n) (h2 : n ≤ 360) : 1 ≤ den law n ∧ den law n ≤ 6046617600000 := by
  have a2 := mulb (show 0 ≤ n by omega) h2 (show 0 ≤ n by omega) h2
  have a3 := mulb a2.1 a2.2 (show 0 ≤ n by omega) h2
  have a4 := mulb a3.1 a3.2 (show 0 ≤ n by omega) h2
  have a5 := mulb a4.1 a4.2 (show 0 ≤ n by omega) h2
  have b2 : 1 ≤ n * n := Int.mul_pos (by omega) (by omega)
  have b3 : 1 ≤ n * n * n := Int.mul_pos (by omega) (by omega)
  have b4 : 1 ≤ n * n * n * n := Int.mul_pos (by omega) (by omega)
  have b5 : 1 ≤ n * n * n * n * n := Int.mul_pos (by omega) (by omega)
  unfold den; (repeat' split) <;> omega

theorem num_bd (law k n : Int) (h1 : 1 ≤ n) (h0 : 0 ≤ k) (hk : k ≤ n) : 0 ≤ num law k n ∧ num law k n ≤ den law n := by
  obtain ⟨a, rfl⟩ : ∃ a, n = k + a := ⟨n - k, by omega⟩
  have ha : 0 ≤ a := by omega
  have kk : 0 ≤ k * k := Int.mul_nonneg h0 h0
  have ka : 0 ≤ k * a := Int.mul_nonneg h0 ha
  have aa : 0 ≤ a * a := Int.mul_nonneg ha ha
  have kkk : 0 ≤ k * k * k := Int.mul_nonneg kk h0
  have aaa : 0 ≤ a * a * a := Int.mul_nonneg aa ha
  unfold num den
  by_cases c1 : law = 1
  · rw [if_pos c1, if_pos c1]
    by_cases c : 2 * k ≤ k + a
    · rw [if_pos c]
      have m : k * k ≤ k * a := Int.mul_le_mul_of_nonneg_left (by omega) h0
      have e1 : 2 * k * k = 2 * (k * k) := by grind
      have e2 : (k + a) * (k + a) = k * k + 2 * (k * a) + a * a := by grind
      rw [e1, e2]; omega
    · rw [if_neg c]
      have m : a * a ≤ k * a := Int.mul_le_mul_of_nonneg_right (by omega) ha
      have e2 : (k + a) * (k + a) - 2 * (k + a - k) * (k + a - k) = k * k + 2 * (k * a) - a * a := by grind
      have e3 : (k + a) * (k + a) = k * k + 2 * (k * a) + a * a := by grind
      rw [e2, e3]; omega
  · rw [if_neg c1, if_neg c1]
    by_cases c2 : law = 2
    · rw [if_pos c2, if_pos c2]
      have e1 : 3 * k * k * (k + a) - 2 * k * k * k = k * k * k + 3 * (k * k * a) := by grind
      have e2 : (k + a) * (k + a) * (k + a) = (k * k * k + 3 * (k * k * a)) + (a * a * a + 3 * (k * (a * a))) := by grind
      have p1 : 0 ≤ k * k * a := Int.mul_nonneg kk ha
      have p2 : 0 ≤ k * (a * a) := Int.mul_nonneg h0 aa
      rw [e1, e2]; omega
    · rw [if_neg c2, if_neg c2]
      by_cases c3 : law = 3
      · rw [if_pos c3, if_pos c3]
        have e0 : 10 * (k + a) * (k + a) - 15 * k * (k + a) + 6 * k * k = k * k + 5 * (k * a) + 10 * (a * a) := by grind
        have e2 : (k + a) * (k + a) * (k + a) * (k + a) * (k + a) = k * k * k * (k * k + 5 * (k * a) + 10 * (a * a)) + a * a * a * (a * a + 5 * (k * a) + 10 * (k * k)) := by grind
        have p1 : 0 ≤ k * k * k * (k * k + 5 * (k * a) + 10 * (a * a)) := Int.mul_nonneg kkk (by omega)
        have p2 : 0 ≤ a * a * a * (a * a + 5 * (k * a) + 10 * (k * k)) := Int.mul_nonneg aaa (by omega)
        rw [e0, e2]; omega
      · rw [if_neg c3, if_neg c3]; omega

theorem shape_t (law k n : Int) (hl : 0 ≤ law ∧ law ≤ 3) (h1 : 1 ≤ n) (h2 : n ≤ 360) (h0 : 0 ≤ k) (hk : k ≤ n) :
    spec_l02Shape.f law k n = some (num law k n, den law n) ∧ impl_shape.f law k n = some (num law k n, den law n) := by
  have nn := mulb (show 0 ≤ n by omega) h2 (show 0 ≤ n by omega) h2
  have nnn := mulb nn.1 nn.2 (show 0 ≤ n by omega) h2
  have n4 := mulb nnn.1 nnn.2 (show 0 ≤ n by omega) h2
  have n5 := mulb n4.1 n4.2 (show 0 ≤ n by omega) h2
  have kk := mulb h0 (show k ≤ 360 by omega) h0 (show k ≤ 360 by omega)
  have kn := mulb h0 (show k ≤ 360 by omega) (show 0 ≤ n by omega) h2
  have kkn := mulb kk.1 kk.2 (show 0 ≤ n by omega) h2
  have kkk := mulb kk.1 kk.2 h0 (show k ≤ 360 by omega)
  have e1 : 2 * k * k = 2 * (k * k) := by grind
  have dd := mulb (show 0 ≤ n - k by omega) (show n - k ≤ 360 by omega) (show 0 ≤ n - k by omega) (show n - k ≤ 360 by omega)
  have e2 : 2 * (n - k) * (n - k) = 2 * ((n - k) * (n - k)) := by grind
  have e3 : 3 * k * k = 3 * (k * k) := by grind
  have e4 : 3 * (k * k) * n = 3 * (k * k * n) := by grind
  have e5 : 2 * (k * k) * k = 2 * (k * k * k) := by grind
  have e6 : 10 * n * n = 10 * (n * n) := by grind
  have e7 : 15 * k * n = 15 * (k * n) := by grind
  have e8 : 6 * k * k = 6 * (k * k) := by grind
  have hb := num_bd law k n h1 h0 hk
  have db := den_bd law n h1 h2
  rcases (by omega : law = 0 ∨ law = 1 ∨ law = 2 ∨ law = 3) with h | h | h | h
  · subst h
    unfold spec_l02Shape.f impl_shape.f num den; simp
  · subst h
    simp only [num, den, if_true] at hb db ⊢
    unfold spec_l02Shape.f impl_shape.f
    simp only [if_true, show ¬ ((1 : Int) = 0) by omega, if_false]
    rw [b_wrap (2 * k) (by omega) (by omega), b_wrap (2 * k * k) (by omega) (by omega), b_wrap (n * n) (by omega) (by omega), b_wrap (n - k) (by omega) (by omega), b_wrap (2 * (n - k)) (by omega) (by omega), b_wrap (2 * (n - k) * (n - k)) (by omega) (by omega), b_wrap (n * n - 2 * (n - k) * (n - k)) (by omega) (by omega)]
    constructor <;> split <;> rfl
  · subst h
    simp only [num, den, if_true, show ¬ ((2 : Int) = 1) by omega, if_false] at hb db ⊢
    unfold spec_l02Shape.f impl_shape.f
    simp only [if_true, show ¬ ((2 : Int) = 0) by omega, show ¬ ((2 : Int) = 1) by omega, if_false]
    rw [b_wrap (3 * k) (by omega) (by omega), b_wrap (3 * k * k) (by omega) (by omega), b_wrap (2 * k) (by omega) (by omega), b_wrap (2 * k * k) (by omega) (by omega), e3, e1, e4, e5, b_wrap (3 * (k * k * n)) (by omega) (by omega), b_wrap (2 * (k * k * k)) (by omega) (by omega), b_wrap (3 * (k * k * n) - 2 * (k * k * k)) (by omega) (by omega), b_wrap (n * n) (by omega) (by omega), b_wrap (n * n * n) (by omega) (by omega)]
    exact ⟨rfl, rfl⟩
  · subst h
    simp only [num, den, if_true, show ¬ ((3 : Int) = 1) by omega, show ¬ ((3 : Int) = 2) by omega, if_false] at hb db ⊢
    unfold spec_l02Shape.f impl_shape.f
    simp only [if_true, show ¬ ((3 : Int) = 0) by omega, show ¬ ((3 : Int) = 1) by omega, show ¬ ((3 : Int) = 2) by omega, if_false]
    rw [b_wrap (k * k) (by omega) (by omega), b_wrap (k * k * k) (by omega) (by omega), b_wrap (10 * n) (by omega) (by omega), b_wrap (15 * k) (by omega) (by omega), b_wrap (6 * k) (by omega) (by omega), b_wrap (10 * n * n) (by omega) (by omega), b_wrap (15 * k * n) (by omega) (by omega), b_wrap (6 * k * k) (by omega) (by omega), b_wrap (10 * n * n - 15 * k * n) (by omega) (by omega), b_wrap (10 * n * n - 15 * k * n + 6 * k * k) (by omega) (by omega), b_wrap (k * k * k * _) (by omega) (by omega), b_wrap (n * n) (by omega) (by omega), b_wrap (n * n * n) (by omega) (by omega), b_wrap (n * n * n * n) (by omega) (by omega), b_wrap (n * n * n * n * n) (by omega) (by omega)]
    exact ⟨rfl, rfl⟩

/-- The lift behind k of n steps. -/
def lift (a b law k n : Int) : Int := (2 * (a * den law n + (b - a) * num law k n) + den law n) / (2 * den law n)

theorem near_t (x d : Int) (hd : 1 ≤ d) (hd' : d ≤ 10000000000000) (hx : -2000000000000000000 ≤ x ∧ x ≤ 2000000000000000000) :
    spec_l01Near.f x d = some ((2 * x + d) / (2 * d)) ∧ impl_nearest.f x d = some ((2 * x + d) / (2 * d)) := by
  have t := tdiv_bd (2 * x + d) (2 * d) (by omega)
  have f := floor_t (2 * x + d) (2 * d) (by omega)
  unfold spec_l01Near.f impl_nearest.f impl_floorDiv.f
  rw [b_wrap (2 * x) (by omega) (by omega), b_wrap (2 * d) (by omega) (by omega), b_wrap (2 * x + d) (by omega) (by omega), b_wrap (Int.tdiv _ _) (by omega) (by omega), b_wrap (_ - 1) (by omega) (by omega), if_neg (by omega), ← f]
  constructor
  · split <;> rfl
  · split <;> rfl

theorem mid_bd (a b law k n : Int) (ha : 0 ≤ a ∧ a ≤ 10000) (hb : 0 ≤ b ∧ b ≤ 10000) (h1 : 1 ≤ n) (h2 : n ≤ 360) (h0 : 0 ≤ k) (hk : k ≤ n) :
    (0 ≤ a * den law n ∧ a * den law n ≤ 60466176000000000) ∧ (-60466176000000000 ≤ (b - a) * num law k n ∧ (b - a) * num law k n ≤ 60466176000000000) := by
  have d := den_bd law n h1 h2
  have m := num_bd law k n h1 h0 hk
  have p := mulb ha.1 ha.2 (show 0 ≤ den law n by omega) d.2
  refine ⟨by omega, ?_⟩
  by_cases c : a ≤ b
  · have q := mulb (show 0 ≤ b - a by omega) (show b - a ≤ 10000 by omega) m.1 (show num law k n ≤ 6046617600000 by omega)
    omega
  · have q := mulb (show 0 ≤ a - b by omega) (show a - b ≤ 10000 by omega) m.1 (show num law k n ≤ 6046617600000 by omega)
    have e : (b - a) * num law k n = -((a - b) * num law k n) := by grind
    omega

theorem liftIn_t (a b law k n : Int) (ha : 0 ≤ a ∧ a ≤ 10000) (hb : 0 ≤ b ∧ b ≤ 10000) (hl : 0 ≤ law ∧ law ≤ 3) (h1 : 1 ≤ n) (h2 : n ≤ 360) (h0 : 0 ≤ k) (hk : k ≤ n) :
    spec_l02Lift.f a b law k n = some (lift a b law k n) ∧ impl_liftIn.f a b law k n = some (lift a b law k n) := by
  have d := den_bd law n h1 h2
  have m := mid_bd a b law k n ha hb h1 h2 h0 hk
  have s := shape_t law k n hl h1 h2 h0 hk
  have t := near_t (a * den law n + (b - a) * num law k n) (den law n) (by omega) (by omega) (by omega)
  unfold spec_l02Lift.f impl_liftIn.f
  rw [s.1, s.2]; simp only [Option.bind_some]
  rw [b_wrap (b - a) (by omega) (by omega), b_wrap (a * den law n) (by omega) (by omega), b_wrap ((b - a) * num law k n) (by omega) (by omega), b_wrap (_ + _) (by omega) (by omega), t.1, t.2]
  exact ⟨rfl, rfl⟩

/-- The lift lies between those of the motion. -/
theorem lift_bd (a b law k n : Int) (h1 : 1 ≤ n) (h2 : n ≤ 360) (h0 : 0 ≤ k) (hk : k ≤ n) : (a ≤ b → a ≤ lift a b law k n ∧ lift a b law k n ≤ b) ∧ (b ≤ a → b ≤ lift a b law k n ∧ lift a b law k n ≤ a) := by
  have d := den_bd law n h1 h2
  have m := num_bd law k n h1 h0 hk
  unfold lift
  generalize den law n = D at *
  generalize num law k n = M at *
  have key : ∀ z : Int, (2 * z ≤ 2 * (a * D + (b - a) * M) + D → True) → True := fun _ _ => trivial
  constructor
  · intro hab
    have q := Int.mul_le_mul_of_nonneg_left m.2 (show 0 ≤ b - a by omega)
    have q0 := Int.mul_nonneg (show 0 ≤ b - a by omega) m.1
    have e : (b - a) * D = b * D - a * D := by grind
    constructor
    · rw [Int.le_ediv_iff_mul_le (by omega)]
      have e1 : a * (2 * D) = 2 * (a * D) := by grind
      omega
    · have : (2 * (a * D + (b - a) * M) + D) / (2 * D) < b + 1 := by
        rw [Int.ediv_lt_iff_lt_mul (by omega)]
        have e1 : (b + 1) * (2 * D) = 2 * (b * D) + 2 * D := by grind
        omega
      omega
  · intro hab
    have q := Int.mul_le_mul_of_nonneg_left m.2 (show 0 ≤ a - b by omega)
    have q0 := Int.mul_nonneg (show 0 ≤ a - b by omega) m.1
    have e : (a - b) * D = a * D - b * D := by grind
    have e' : (b - a) * M = -((a - b) * M) := by grind
    constructor
    · rw [Int.le_ediv_iff_mul_le (by omega)]
      have e1 : b * (2 * D) = 2 * (b * D) := by grind
      omega
    · have : (2 * (a * D + (b - a) * M) + D) / (2 * D) < a + 1 := by
        rw [Int.ediv_lt_iff_lt_mul (by omega)]
        have e1 : (a + 1) * (2 * D) = 2 * (a * D) + 2 * D := by grind
        omega
      omega


theorem at_t (l : List Int) (hl : l.length ≤ 3000) (hw : ∀ x ∈ l, (Lit.int .u8 x).wf = true) (a n : Int) (ha : 0 ≤ a) (hn : 1 ≤ n) (hn' : n ≤ 1000) : ∃ t, laws_a2At.f l a n = some t ∧ 0 ≤ t ∧ t < n := by
  unfold laws_a2At.f
  by_cases h : a ≥ (l.length : Int)
  · rw [if_pos h]; exact ⟨0, rfl, by omega, by omega⟩
  · obtain ⟨i, rfl⟩ := Int.eq_ofNat_of_zero_le ha
    have hv := hw (l[i]'(by omega)) (List.getElem_mem _)
    have hv' : 0 ≤ l[i]'(by omega) ∧ l[i]'(by omega) ≤ 255 := by
      simpa [Lit.wf, IntKind.min, IntKind.max, IntKind.bits, IntKind.signed] using hv
    rw [if_neg h, if_neg (by omega), if_pos (by omega), if_pos (by omega), if_neg (by omega), b_rd l i (by omega), b_wrap _ (by omega) (by omega), Int.tmod_eq_emod_of_nonneg (by omega)]
    exact ⟨_, rfl, Int.emod_nonneg _ (by omega), Int.emod_lt_of_pos _ (by omega)⟩

theorem num_sym (law k n : Int) : num law (n - k) n = den law n - num law k n := by
  unfold num den
  by_cases c1 : law = 1
  · simp only [if_pos c1]
    by_cases c : 2 * k ≤ n
    · rw [if_pos c]
      by_cases d : 2 * (n - k) ≤ n
      · rw [if_pos d]
        have e : n = 2 * k := by omega
        subst e; grind
      · rw [if_neg d]; grind
    · rw [if_neg c, if_pos (by omega)]; grind
  · simp only [if_neg c1]
    by_cases c2 : law = 2
    · simp only [if_pos c2]; grind
    · simp only [if_neg c2]
      by_cases c3 : law = 3
      · simp only [if_pos c3]; grind
      · simp only [if_neg c3]

theorem num_zero (law n : Int) (h : 1 ≤ n) : num law 0 n = 0 := by
  unfold num
  by_cases c1 : law = 1
  · rw [if_pos c1, if_pos (by omega)]; rfl
  · rw [if_neg c1]
    by_cases c2 : law = 2
    · rw [if_pos c2]; simp
    · rw [if_neg c2]
      by_cases c3 : law = 3
      · rw [if_pos c3]; simp
      · rw [if_neg c3]

theorem num_mono (law k n : Int) (h0 : 0 ≤ k) (hk : k < n) : num law k n ≤ num law (k + 1) n := by
  obtain ⟨c, rfl⟩ : ∃ c, n = k + 1 + c := ⟨n - (k + 1), by omega⟩
  have hc : 0 ≤ c := by omega
  have kk : 0 ≤ k * k := Int.mul_nonneg h0 h0
  have kc : 0 ≤ k * c := Int.mul_nonneg h0 hc
  unfold num
  by_cases c1 : law = 1
  · simp only [if_pos c1]
    by_cases d : 2 * k ≤ k + 1 + c
    · rw [if_pos d]
      by_cases d2 : 2 * (k + 1) ≤ k + 1 + c
      · rw [if_pos d2]
        have e : 2 * (k + 1) * (k + 1) = 2 * k * k + 4 * k + 2 := by grind
        omega
      · rw [if_neg d2]
        have q : c = k ∨ c + 1 = k := by omega
        rcases q with rfl | rfl
        · have e : (c + 1 + c) * (c + 1 + c) - 2 * (c + 1 + c - (c + 1)) * (c + 1 + c - (c + 1)) = 2 * c * c + 4 * c + 1 := by grind
          omega
        · have e : (c + 1 + 1 + c) * (c + 1 + 1 + c) - 2 * (c + 1 + 1 + c - (c + 1 + 1)) * (c + 1 + 1 + c - (c + 1 + 1)) = 2 * (c + 1) * (c + 1) + 4 * c + 2 := by grind
          omega
    · rw [if_neg d, if_neg (by omega)]
      have e : (k + 1 + c) * (k + 1 + c) - 2 * (k + 1 + c - (k + 1)) * (k + 1 + c - (k + 1)) = ((k + 1 + c) * (k + 1 + c) - 2 * (k + 1 + c - k) * (k + 1 + c - k)) + (4 * c + 2) := by grind
      omega
  · simp only [if_neg c1]
    by_cases c2 : law = 2
    · simp only [if_pos c2]
      have e : 3 * (k + 1) * (k + 1) * (k + 1 + c) - 2 * (k + 1) * (k + 1) * (k + 1) = (3 * k * k * (k + 1 + c) - 2 * k * k * k) + (6 * (k * c) + 3 * k + 3 * c + 1) := by grind
      omega
    · simp only [if_neg c2]
      by_cases c3 : law = 3
      · simp only [if_pos c3]
        have e : (k + 1) * (k + 1) * (k + 1) * (10 * (k + 1 + c) * (k + 1 + c) - 15 * (k + 1) * (k + 1 + c) + 6 * (k + 1) * (k + 1)) = k * k * k * (10 * (k + 1 + c) * (k + 1 + c) - 15 * k * (k + 1 + c) + 6 * k * k) + ((10 * (k * k) + 5 * k + 1) + c * (30 * (k * k) + 20 * k + 5) + c * c * (10 * (3 * (k * k) + 3 * k + 1))) := by grind
        have p1 : 0 ≤ c * (30 * (k * k) + 20 * k + 5) := Int.mul_nonneg hc (by omega)
        have p2 : 0 ≤ c * c * (10 * (3 * (k * k) + 3 * k + 1)) := Int.mul_nonneg (Int.mul_nonneg hc hc) (by omega)
        rw [e]; omega
      · simp only [if_neg c3]; omega

theorem lift_sym (a b law k n : Int) : lift b a law (n - k) n = lift a b law k n := by
  unfold lift
  rw [num_sym]
  congr 2
  grind

theorem lift_zero (a b law n : Int) (h1 : 1 ≤ n) (h2 : n ≤ 360) : lift a b law 0 n = a := by
  have d := den_bd law n h1 h2
  unfold lift
  rw [num_zero law n h1]
  generalize den law n = D at *
  have e : 2 * (a * D + (b - a) * 0) + D = a * (2 * D) + D := by grind
  rw [e]
  exact ((Int.ediv_emod_unique (a := a * (2 * D) + D) (b := 2 * D) (r := D) (q := a) (by omega)).mpr ⟨by grind, by omega, by omega⟩).1

theorem lift_end (a b law n : Int) (h1 : 1 ≤ n) (h2 : n ≤ 360) : lift a b law n n = b := by
  have h := lift_sym b a law 0 n
  rw [show n - 0 = n by omega] at h
  rw [h, lift_zero b a law n h1 h2]

theorem lift_mono (a b law k n : Int) (h1 : 1 ≤ n) (h2 : n ≤ 360) (h0 : 0 ≤ k) (hk : k < n) : (a ≤ b → lift a b law k n ≤ lift a b law (k + 1) n) ∧ (b ≤ a → lift a b law (k + 1) n ≤ lift a b law k n) := by
  have d := den_bd law n h1 h2
  have m := num_mono law k n h0 hk
  unfold lift
  constructor
  · intro hab
    have q := Int.mul_le_mul_of_nonneg_left m (show 0 ≤ b - a by omega)
    exact Int.ediv_le_ediv (by omega) (by omega)
  · intro hab
    have q := Int.mul_le_mul_of_nonneg_left m (show 0 ≤ a - b by omega)
    have e1 : (b - a) * num law (k + 1) n = -((a - b) * num law (k + 1) n) := by grind
    have e2 : (b - a) * num law k n = -((a - b) * num law k n) := by grind
    exact Int.ediv_le_ediv (by omega) (by omega)

theorem shapeOf_t (law k n : Int) (hl : 0 ≤ law ∧ law ≤ 3) (hn : 1 ≤ n ∧ n ≤ 360) (hk : 0 ≤ k ∧ k ≤ n) : impl_ShapeOf.f law k n = some (num law k n, den law n, 0) ∧ spec_ShapeOf.f law k n = some (num law k n, den law n, 0) := by
  have s := shape_t law k n hl hn.1 hn.2 hk.1 hk.2
  unfold spec_ShapeOf.f impl_ShapeOf.f spec_l02Asked.f impl_isShape.f spec_l02Law.f impl_isLaw.f
  simp only [spec_l00In_t, impl_inRange_t, Option.bind_some, s.1, s.2]
  simp [hl, hn, hk]

theorem LiftIn_t (a b law k n : Int) (ha : 0 ≤ a ∧ a ≤ 10000) (hb : 0 ≤ b ∧ b ≤ 10000) (hl : 0 ≤ law ∧ law ≤ 3) (hn : 1 ≤ n ∧ n ≤ 360) (hk : 0 ≤ k ∧ k ≤ n) : impl_LiftIn.f a b law k n = some (lift a b law k n, 0) ∧ spec_LiftIn.f a b law k n = some (lift a b law k n, 0) := by
  have s := liftIn_t a b law k n ha hb hl hn.1 hn.2 hk.1 hk.2
  unfold spec_LiftIn.f impl_LiftIn.f spec_l02Asked.f impl_isShape.f spec_l02Law.f impl_isLaw.f spec_l01Lift.f impl_isLift.f
  simp only [spec_l00In_t, impl_inRange_t, Option.bind_some, s.1, s.2]
  simp [hl, hn, hk, ha, hb]

theorem mn_t (a b x : Int) (h : (a ≤ b → a ≤ x ∧ x ≤ b) ∧ (b ≤ a → b ≤ x ∧ x ≤ a)) : ¬ x < mn a b ∧ ¬ x > mx a b := by
  unfold mn mx; constructor <;> split <;> omega

theorem gate {p q : Prop} [Decidable p] [Decidable q] {x y z : Option Bool} (h : p → q) (hx : x = z) : (if p then (if q then x else y) else x) = z := by
  by_cases c : p
  · rw [if_pos c, if_pos (h c)]; exact hx
  · rw [if_neg c]; exact hx

theorem gate' {p q : Prop} [Decidable p] [Decidable q] {x y z : Option Bool} (h : p → ¬ q) (hx : x = z) : (if p then (if q then y else x) else x) = z := by
  by_cases c : p
  · rw [if_pos c, if_neg (h c)]; exact hx
  · rw [if_neg c]; exact hx

theorem loop_l (law n a b : Int) (ha : 0 ≤ a ∧ a ≤ 10000) (hb : 0 ≤ b ∧ b ≤ 10000) (hl : 0 ≤ law ∧ law ≤ 3) (hn : 1 ≤ n ∧ n ≤ 100) (d : Nat) : ∀ (k i : Nat) (q : Int), n + 1 - i = d → 2 * d < k →
    ((i : Int) ≤ n → (a ≤ b → q ≤ lift a b law i n) ∧ (b ≤ a → lift a b law i n ≤ q)) → laws_FnShapes.l0 k law n a b q (i : Int) = some true := by
  induction d with
  | zero =>
    intro k i q hd hk hq
    obtain ⟨k, rfl⟩ : ∃ m, k = m + 1 := ⟨k - 1, by omega⟩
    simp only [laws_FnShapes.l0]
    rw [if_neg (by omega), b_wrap (n + 1) (by omega) (by omega)]
    unfold impl_ShapeOf.f impl_isShape.f impl_isLaw.f
    simp only [impl_inRange_t, Option.bind_some, decide_eq_true hl, decide_eq_true (show 1 ≤ n ∧ n ≤ 360 by omega), decide_eq_false (show ¬ (0 ≤ n + 1 ∧ n + 1 ≤ n) by omega), if_true, Bool.false_eq_true, if_false]
    rfl
  | succ d ih =>
    intro k i q hd hk hq
    obtain ⟨k, rfl⟩ : ∃ m, k = m + 2 := ⟨k - 2, by omega⟩
    have hi : (0 : Int) ≤ i ∧ (i : Int) ≤ n := by omega
    have hn' : 1 ≤ n ∧ n ≤ 360 := by omega
    have s1 := shapeOf_t law i n hl hn' hi
    have s2 := LiftIn_t a b law i n ha hb hl hn' hi
    have s3 := LiftIn_t b a law (n - i) n hb ha hl hn' (by omega)
    rw [lift_sym] at s3
    have b1 := num_bd law i n hn'.1 hi.1 hi.2
    have b2 := den_bd law n hn'.1 hn'.2
    have b3 := mn_t a b _ (lift_bd a b law i n hn'.1 hn'.2 hi.1 hi.2)
    have w1 : wrap64 (n - (i : Int)) = n - i := b_wrap _ (by omega) (by omega)
    have w2 : wrap64 ((i : Int) + 1) = ((i + 1 : Nat) : Int) := by rw [b_wrap _ (by omega) (by omega)]; omega
    have hq' := hq hi.2
    have z0 : (i : Int) = 0 → lift a b law i n = a := fun h => by rw [h]; exact lift_zero a b law n hn'.1 hn'.2
    have z1 : (i : Int) = n → lift a b law i n = b := fun h => by rw [h]; exact lift_end a b law n hn'.1 hn'.2
    have nx : laws_FnShapes.l0 k law n a b (lift a b law i n) ((i + 1 : Nat) : Int) = some true := by
      refine ih k (i + 1) _ (by omega) (by omega) (fun h => ?_)
      have := lift_mono a b law i n hn'.1 hn'.2 hi.1 (by omega)
      rw [show (((i + 1 : Nat) : Int)) = (i : Int) + 1 by omega]; exact this
    simp only [laws_FnShapes.l0, if_pos hi.2, s1.1, s1.2, s2.1, s2.2, w1, s3.1, Option.bind_some, if_true, bne_self_eq_false]
    rw [if_neg (by omega), if_neg (by omega), if_neg (by omega)]
    generalize lift a b law i n = L at *
    simp only [laws_FnShapes.j1]
    rw [if_neg (by simp), if_neg b3.1, if_neg b3.2, w2]
    clear hq ih s1 s2 s3 b1 b2
    refine gate z0 (gate z1 (gate' ?_ (gate' ?_ nx)))
    · exact fun h => Int.not_lt.mpr (hq'.1 h)
    · exact fun h => Int.not_lt.mpr (hq'.2 h)

theorem FnShapes : laws_FnShapes.Pure := by
  intro l m _ _ hw _ _ hw'
  unfold laws_FnShapes.f laws_a2Long.f
  by_cases h : (l.length : Int) > 3000
  · exact ⟨0, by rw [if_pos h]; rfl⟩
  rw [if_neg h]
  by_cases h' : (m.length : Int) > 3000
  · exact ⟨0, by simp [h']⟩
  obtain ⟨law, q1, q2, q3⟩ := at_t l (by omega) hw 0 4 (by omega) (by omega) (by omega)
  obtain ⟨n, r1, r2, r3⟩ := at_t l (by omega) hw 1 40 (by omega) (by omega) (by omega)
  obtain ⟨a, u1, u2, u3⟩ := at_t m (by omega) hw' 0 200 (by omega) (by omega) (by omega)
  obtain ⟨b, v1, v2, v3⟩ := at_t m (by omega) hw' 1 200 (by omega) (by omega) (by omega)
  have z := lift_zero a b law (1 + n) (by omega) (by omega)
  have key := loop_l law (1 + n) a b (by omega) (by omega) (by omega) (by omega) (n + 2).toNat 200 0 a (by omega) (by omega) (fun _ => by
    rw [show ((0 : Nat) : Int) = 0 from rfl, z]; exact ⟨fun _ => Int.le_refl _, fun _ => Int.le_refl _⟩)
  refine ⟨200, ?_⟩
  generalize (200 : Nat) = kk at *
  rw [decide_eq_false h']
  simp only [Option.bind_some, Bool.false_eq_true, if_false, q1, r1, u1, v1]
  rw [b_wrap (1 + n) (by omega) (by omega)]
  exact key

end Go.Proofs.Ytobngbphmhggkaa.Pure
