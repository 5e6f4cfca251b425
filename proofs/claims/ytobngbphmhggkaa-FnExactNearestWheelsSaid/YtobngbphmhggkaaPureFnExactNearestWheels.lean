/- The pure statement of the law FnExactNearestWheels is proved: for every input that the law speaks of, the law's function answers true. No conditions beyond the statement's own. -/
import Derived.Test.YtobngbphmhggkaaPFnExactNearestWheelsx
namespace Go.Proofs.Ytobngbphmhggkaa.Pure
open Go.RowKit Go.Proofs.Ytobngbphmhggkaa.PFnExactNearestWheels Go.Proofs.YtobngbphmhggkaaW.PrintWords Go.Proofs.YtobngbphmhggkaaW.PrintLast
set_option linter.unusedVariables false

theorem b_wrap (x : Int) (h : -9223372036854775808 ≤ x) (h' : x ≤ 9223372036854775807) : wrap64 x = x := by
  unfold wrap64; omega

theorem b_rd (l : List Int) (i : Nat) (h : i < l.length) : rd l (i : Int) = l[i] := by
  unfold rd; rw [List.getD_eq_getElem?_getD, Int.toNat_natCast, List.getElem?_eq_getElem h]; rfl

theorem b_take (l : List Int) (i : Nat) (h : i < l.length) : l.take (i + 1) = l.take i ++ [l[i]] := by
  rw [List.take_succ_eq_append_getElem h]

theorem b_set (x : List Int) (i : Nat) (v : Int) (h : i < x.length) : (x.set i v).take (i + 1) = x.take i ++ [v] := by
  have h' : i < (x.set i v).length := by rw [List.length_set]; exact h
  rw [List.take_succ_eq_append_getElem h', List.getElem_set_self, List.take_set_of_le (Nat.le_refl i)]
theorem impl_inRange_t (a b c : Int) : impl_inRange.f a b c = some (decide (b ≤ a ∧ a ≤ c)) := by
  unfold impl_inRange.f
  by_cases h : b ≤ a
  · rw [if_pos h]; simp [h]
  · rw [if_neg h]; simp [h]
theorem spec_l00In_t (a b c : Int) : spec_l00In.f a b c = some (decide (b ≤ a ∧ a ≤ c)) := by
  unfold spec_l00In.f
  by_cases h : b ≤ a
  · rw [if_pos h]; simp [h]
  · rw [if_neg h]; simp [h]

/-- How far a pair of wheels is off. -/
def off (num den a b : Int) : Int := if a * den - num * b < 0 then -(a * den - num * b) else a * den - num * b

/-- The pair a, b is not worse than c, d: by the ratio, then by the sum, then by the first wheel. -/
def K (num den a b c d : Int) : Prop :=
  off num den a b * d < off num den c d * b ∨ (off num den a b * d = off num den c d * b ∧ (a + b < c + d ∨ (a + b = c + d ∧ a ≤ c)))

theorem cross (x y z a b c : Int) (ha : 0 < a) (hb : 0 < b) (hc : 0 < c) (h1 : x * b ≤ y * a) (h2 : y * c ≤ z * b) :
    x * c ≤ z * a ∧ (x * b < y * a ∨ y * c < z * b → x * c < z * a) := by
  have e1 : x * c * b = x * b * c := by rw [Int.mul_assoc, Int.mul_comm c b, ← Int.mul_assoc]
  have e2 : y * a * c = y * c * a := by rw [Int.mul_assoc, Int.mul_comm a c, ← Int.mul_assoc]
  have e3 : z * b * a = z * a * b := by rw [Int.mul_assoc, Int.mul_comm b a, ← Int.mul_assoc]
  have m1 : x * b * c ≤ y * a * c := Int.mul_le_mul_of_nonneg_right h1 (by omega)
  have m2 : y * c * a ≤ z * b * a := Int.mul_le_mul_of_nonneg_right h2 (by omega)
  have g1 : x * c * b ≤ z * a * b := by omega
  have g2 : x * c * b < z * a * b → x * c < z * a := fun h => Int.lt_of_mul_lt_mul_right h (by omega)
  refine ⟨Int.le_of_mul_le_mul_right g1 hb, fun h => g2 ?_⟩
  rcases h with h | h
  · have := Int.mul_lt_mul_of_pos_right h hc; omega
  · have := Int.mul_lt_mul_of_pos_right h ha; omega

theorem K_trans {num den a b c d e f : Int} (hb : 0 < b) (hd : 0 < d) (hf : 0 < f) (h1 : K num den a b c d) (h2 : K num den c d e f) : K num den a b e f := by
  unfold K at *
  have := cross (off num den a b) (off num den c d) (off num den e f) b d f hb hd hf (by omega) (by omega)
  omega

theorem K_anti {num den a b c d : Int} (h1 : K num den a b c d) (h2 : K num den c d a b) : a = c ∧ b = d := by
  unfold K at *; omega

theorem off_bd (num den a b : Int) (h1 : 1 ≤ num) (h2 : num ≤ 1000) (h3 : 1 ≤ den) (h4 : den ≤ 1000) (h5 : 8 ≤ a) (h6 : a ≤ 240) (h7 : 8 ≤ b) (h8 : b ≤ 240) :
    0 ≤ a * den ∧ a * den ≤ 240000 ∧ 0 ≤ num * b ∧ num * b ≤ 240000 ∧ 0 ≤ off num den a b ∧ off num den a b ≤ 240000 := by
  have p1 : 0 ≤ a * den := Int.mul_nonneg (by omega) (by omega)
  have p2 : a * den ≤ 240 * 1000 := Int.mul_le_mul h6 h4 (by omega) (by omega)
  have p3 : 0 ≤ num * b := Int.mul_nonneg (by omega) (by omega)
  have p4 : num * b ≤ 1000 * 240 := Int.mul_le_mul h2 h8 (by omega) (by omega)
  unfold off
  refine ⟨p1, by omega, p3, by omega, ?_, ?_⟩ <;> split <;> omega

theorem offb (x b : Int) (h1 : 0 ≤ x) (h2 : x ≤ 240000) (h3 : 0 ≤ b) (h4 : b ≤ 240) : 0 ≤ x * b ∧ x * b ≤ 57600000 :=
  ⟨Int.mul_nonneg h1 h3, Int.le_trans (Int.mul_le_mul h2 h4 h3 (by omega)) (by omega)⟩

theorem cmp_t (a b : Int) : cmp_Compare_int64.f a b = some (if a < b then -1 else if a > b then 1 else 0) := by
  unfold cmp_Compare_int64.f cmp_isNaN_int64.f
  simp
  split
  · rfl
  · split <;> rfl

theorem or_t (x y z : Int) (k : Nat) (hk : 5 ≤ k) : cmp_Or_int.f k [x, y, z] = some (if x = 0 then (if y = 0 then z else y) else x) := by
  obtain ⟨k, rfl⟩ : ∃ m, k = m + 5 := ⟨k - 5, by omega⟩
  unfold cmp_Or_int.f
  have w1 : wrap64 (0 + 1) = 1 := by rw [b_wrap _ (by omega) (by omega)]; rfl
  have w2 : wrap64 (1 + 1) = 2 := by rw [b_wrap _ (by omega) (by omega)]; rfl
  have w3 : wrap64 (2 + 1) = 3 := by rw [b_wrap _ (by omega) (by omega)]; rfl
  have r0 : rd [x, y, z] 0 = x := rfl
  have r1 : rd [x, y, z] 1 = y := rfl
  have r2 : rd [x, y, z] 2 = z := rfl
  have len : (([x, y, z] : List Int).length : Int) = 3 := rfl
  simp only [cmp_Or_int.l0, len, w1, w2, w3, r0, r1, r2]
  by_cases hx : x = 0 <;> by_cases hy : y = 0 <;> by_cases hz : z = 0 <;> simp [hx, hy, hz]

theorem compare_t (num den a b c d : Int) (k : Nat) (hk : 5 ≤ k) (h1 : 1 ≤ num) (h2 : num ≤ 1000) (h3 : 1 ≤ den) (h4 : den ≤ 1000) (h5 : 8 ≤ a) (h6 : a ≤ 120) (h7 : 8 ≤ b) (h8 : b ≤ 120) (h9 : 8 ≤ c) (h10 : c ≤ 120) (h11 : 8 ≤ d) (h12 : d ≤ 120) :
    ∃ v, impl_comparePairs.f k a b (off num den a b) c d (off num den c d) = some v ∧ (v < 0 → K num den a b c d) ∧ (¬ v < 0 → K num den c d a b) := by
  have o1 := off_bd num den a b h1 h2 h3 h4 h5 (by omega) h7 (by omega)
  have o2 := off_bd num den c d h1 h2 h3 h4 h9 (by omega) h11 (by omega)
  have q1 := offb (off num den a b) d (by omega) (by omega) (by omega) (by omega)
  have q2 := offb (off num den c d) b (by omega) (by omega) (by omega) (by omega)
  unfold impl_comparePairs.f
  simp only [cmp_t, Option.bind_some, or_t _ _ _ k hk]
  rw [b_wrap (_ * d) (by omega) (by omega), b_wrap (_ * b) (by omega) (by omega), b_wrap (a + b) (by omega) (by omega), b_wrap (c + d) (by omega) (by omega)]
  refine ⟨_, rfl, ?_, ?_⟩
  · intro h; unfold K; revert h; (repeat' split) <;> omega
  · intro h; unfold K; revert h; (repeat' split) <;> omega

/-- A round's test of impl: the size of the difference. -/
theorem abs_t (num den a b : Int) (h1 : 1 ≤ num) (h2 : num ≤ 1000) (h3 : 1 ≤ den) (h4 : den ≤ 1000) (h5 : 8 ≤ a) (h6 : a ≤ 240) (h7 : 8 ≤ b) (h8 : b ≤ 240) :
    impl_abs.f (wrap64 ((wrap64 (a * den)) - (wrap64 (num * b)))) = some (off num den a b) ∧ spec_l01Size.f (wrap64 ((wrap64 (a * den)) - (wrap64 (num * b)))) = some (off num den a b) := by
  have o1 := off_bd num den a b h1 h2 h3 h4 h5 h6 h7 h8
  rw [b_wrap (a * den) (by omega) (by omega), b_wrap (num * b) (by omega) (by omega), b_wrap (a * den - num * b) (by omega) (by omega)]
  unfold impl_abs.f spec_l01Size.f off
  rw [b_wrap (-(a * den - num * b)) (by omega) (by omega)]
  constructor
  · unfold mx; congr 1; split <;> split <;> omega
  · split <;> rfl

/-- The best one so far, over the pairs of which P speaks. -/
def Best (num den most a b : Int) (P : Int → Int → Prop) : Prop :=
  8 ≤ a ∧ a ≤ most ∧ 8 ≤ b ∧ b ≤ most ∧ ∀ c d, 8 ≤ c → c ≤ most → 8 ≤ d → d ≤ most → P c d → K num den a b c d

def Answer (num den most : Int) (r : Int × Int × Int) : Prop := r.2.2 = 0 ∧ Best num den most r.1 r.2.1 fun _ _ => True

section loops
variable (num den most : Int) (h1 : 1 ≤ num) (h2 : num ≤ 1000) (h3 : 1 ≤ den) (h4 : den ≤ 1000) (h5 : 8 ≤ most) (h6 : most ≤ 120)
include h1 h2 h3 h4 h5 h6

theorem impl_l (A : Nat) : (∀ a x y z : Int, 8 ≤ a → a ≤ most + 1 → most + 1 - a = A → (x = 0 ∧ a = 8 ∨ x ≠ 0 ∧ 8 < a ∧ z = off num den x y ∧ Best num den most x y fun c d => c < a) →
    ∃ r, Answer num den most r ∧ Ev (fun k => impl_NearestWheels.l0 k num den most a x y z) r) := by
  induction A with
  | zero =>
    intro a x y z ha ha' hA h
    refine ⟨(x, y, 0), ⟨rfl, ?_⟩, ⟨1, fun k hk => ?_⟩⟩
    · rcases h with h | h
      · omega
      · obtain ⟨_, _, _, q1, q2, q3, q4, q5⟩ := h
        exact ⟨q1, q2, q3, q4, fun c d c1 c2 d1 d2 _ => q5 c d c1 c2 d1 d2 (by omega)⟩
    · obtain ⟨k, rfl⟩ : ∃ m, k = m + 1 := ⟨k - 1, by omega⟩
      simp only [impl_NearestWheels.l0]; rw [if_neg (by omega)]
  | succ A ihA =>
    intro a x y z ha ha' hA h
    have inner : ∀ (B : Nat) (b x y z : Int), 8 ≤ b → b ≤ most + 1 → most + 1 - b = B → (x = 0 ∧ a = 8 ∧ b = 8 ∨ x ≠ 0 ∧ (8 < a ∨ 8 < b) ∧ z = off num den x y ∧ Best num den most x y fun c d => c < a ∨ c = a ∧ d < b) →
        ∃ r, Answer num den most r ∧ Ev (fun k => impl_NearestWheels.l1 k num den most a b x y z) r := by
      intro B
      induction B with
      | zero =>
        intro b x y z hb hb' hB h
        have hx : x ≠ 0 ∧ 8 < a + 1 ∧ z = off num den x y ∧ Best num den most x y fun c d => c < a + 1 := by
          rcases h with h | h
          · omega
          · obtain ⟨q0, _, qz, q1, q2, q3, q4, q5⟩ := h
            exact ⟨q0, by omega, qz, q1, q2, q3, q4, fun c d c1 c2 d1 d2 hc => q5 c d c1 c2 d1 d2 (by omega)⟩
        obtain ⟨r, hr, ⟨N, hN⟩⟩ := ihA (a + 1) x y z (by omega) (by omega) (by omega) (Or.inr hx)
        refine ⟨r, hr, ⟨N + 1, fun k hk => ?_⟩⟩
        obtain ⟨k, rfl⟩ : ∃ m, k = m + 1 := ⟨k - 1, by omega⟩
        simp only [impl_NearestWheels.l1]; rw [if_neg (by omega), b_wrap _ (by omega) (by omega)]
        exact hN k (by omega)
      | succ B ihB =>
        intro b x y z hb hb' hB h
        have hab := (abs_t num den a b h1 h2 h3 h4 ha (by omega) hb (by omega)).1
        have take : Best num den most a b (fun c d => c < a ∨ c = a ∧ d < b + 1) → ∃ r, Answer num den most r ∧ Ev (fun k => impl_NearestWheels.l1 k num den most a (b + 1) a b (off num den a b)) r :=
          fun hb1 => ihB (b + 1) a b (off num den a b) (by omega) (by omega) (by omega) (Or.inr ⟨by omega, by omega, rfl, hb1⟩)
        by_cases hx : x = 0
        · obtain ⟨r, hr, ⟨N, hN⟩⟩ := take ⟨ha, by omega, hb, by omega, fun c d c1 c2 d1 d2 hc => by
            rcases h with h | h
            · have e1 : c = a := by omega
              have e2 : d = b := by omega
              subst e1 e2; unfold K; omega
            · exact absurd hx h.1⟩
          refine ⟨r, hr, ⟨N + 1, fun k hk => ?_⟩⟩
          obtain ⟨k, rfl⟩ : ∃ m, k = m + 1 := ⟨k - 1, by omega⟩
          simp only [impl_NearestWheels.l1]; rw [if_pos (by omega), hab]; simp only [Option.bind_some]
          rw [if_pos hx, b_wrap _ (by omega) (by omega)]
          exact hN k (by omega)
        · obtain ⟨_, qab, qz, q1, q2, q3, q4, q5⟩ := h.resolve_left (fun h => hx h.1)
          subst qz
          by_cases hlt : ∀ k, 5 ≤ k → ∃ v, impl_comparePairs.f k a b (off num den a b) x y (off num den x y) = some v ∧ v < 0
          · obtain ⟨v, hv, hv1, _⟩ := compare_t num den a b x y 5 (by omega) h1 h2 h3 h4 ha (by omega) hb (by omega) q1 (by omega) q3 (by omega)
            obtain ⟨v', hv', hv0⟩ := hlt 5 (by omega)
            rw [hv] at hv'; cases hv'
            have hK := hv1 hv0
            obtain ⟨r, hr, ⟨N, hN⟩⟩ := take ⟨ha, by omega, hb, by omega, fun c d c1 c2 d1 d2 hc => by
              by_cases e : c = a ∧ d = b
              · obtain ⟨rfl, rfl⟩ := e; unfold K; omega
              · exact K_trans (by omega) (by omega) (by omega) hK (q5 c d c1 c2 d1 d2 (by omega))⟩
            refine ⟨r, hr, ⟨N + 6, fun k hk => ?_⟩⟩
            obtain ⟨k, rfl⟩ : ∃ m, k = m + 1 := ⟨k - 1, by omega⟩
            obtain ⟨u, hu, hu0⟩ := hlt k (by omega)
            simp only [impl_NearestWheels.l1]; rw [if_pos (by omega), hab]; simp only [Option.bind_some]
            rw [if_neg hx, hu]; simp only [Option.bind_some]
            rw [if_pos hu0, b_wrap _ (by omega) (by omega)]
            exact hN k (by omega)
          · have hlt' : ∃ k, 5 ≤ k ∧ ∀ v, impl_comparePairs.f k a b (off num den a b) x y (off num den x y) = some v → ¬ v < 0 := by
              false_or_by_contra
              rename_i hc
              exact hlt (fun k hk => by
                false_or_by_contra
                rename_i hd
                exact hc ⟨k, hk, fun v hv hv0 => hd ⟨v, hv, hv0⟩⟩)
            obtain ⟨k0, hk0, hk1⟩ := hlt'
            obtain ⟨v, hv, _, hv2⟩ := compare_t num den a b x y k0 hk0 h1 h2 h3 h4 ha (by omega) hb (by omega) q1 (by omega) q3 (by omega)
            have hv0 := hk1 v hv
            have hK := hv2 hv0
            obtain ⟨r, hr, ⟨N, hN⟩⟩ := ihB (b + 1) x y (off num den x y) (by omega) (by omega) (by omega) (Or.inr ⟨hx, by omega, rfl, q1, q2, q3, q4, fun c d c1 c2 d1 d2 hc => by
              by_cases e : c = a ∧ d = b
              · obtain ⟨rfl, rfl⟩ := e; exact hK
              · exact q5 c d c1 c2 d1 d2 (by omega)⟩)
            refine ⟨r, hr, ⟨N + k0 + 1, fun k hk => ?_⟩⟩
            obtain ⟨k, rfl⟩ : ∃ m, k = m + 1 := ⟨k - 1, by omega⟩
            have hu : impl_comparePairs.f k a b (off num den a b) x y (off num den x y) = some v := at_rounds (impl_comparePairs.mono _ _ _ _ _ _) (show k0 ≤ k by omega) hv
            simp only [impl_NearestWheels.l1]; rw [if_pos (by omega), hab]; simp only [Option.bind_some]
            rw [if_neg hx, hu]; simp only [Option.bind_some]
            rw [if_neg hv0, b_wrap _ (by omega) (by omega)]
            exact hN k (by omega)
    have h' : x = 0 ∧ a = 8 ∧ (8 : Int) = 8 ∨ x ≠ 0 ∧ (8 < a ∨ (8 : Int) < 8) ∧ z = off num den x y ∧ Best num den most x y fun c d => c < a ∨ c = a ∧ d < 8 := by
      rcases h with h | h
      · exact Or.inl ⟨h.1, h.2, rfl⟩
      · obtain ⟨q0, qa, qz, q1, q2, q3, q4, q5⟩ := h
        exact Or.inr ⟨q0, Or.inl qa, qz, q1, q2, q3, q4, fun c d c1 c2 d1 d2 hc => q5 c d c1 c2 d1 d2 (by omega)⟩
    obtain ⟨r, hr, ⟨N, hN⟩⟩ := inner (most + 1 - 8).toNat 8 x y z (by omega) (by omega) (by omega) h'
    refine ⟨r, hr, ⟨N + 1, fun k hk => ?_⟩⟩
    obtain ⟨k, rfl⟩ : ∃ m, k = m + 1 := ⟨k - 1, by omega⟩
    simp only [impl_NearestWheels.l0]; rw [if_pos (by omega)]
    exact hN k (by omega)

theorem spec_l (A : Nat) : (∀ s x y : Int, 16 ≤ s → s ≤ 2 * most + 1 → 2 * most + 1 - s = A → (y = 0 ∧ s = 16 ∨ y ≠ 0 ∧ 16 < s ∧ x + y < s ∧ Best num den most x y fun c d => c + d < s) →
    ∃ r, Answer num den most r ∧ Ev (fun k => spec_NearestWheels.l0 k num den most x y s) r) := by
  induction A with
  | zero =>
    intro s x y ha ha' hA h
    refine ⟨(x, y, 0), ⟨rfl, ?_⟩, ⟨1, fun k hk => ?_⟩⟩
    · rcases h with h | h
      · omega
      · obtain ⟨_, _, _, q1, q2, q3, q4, q5⟩ := h
        exact ⟨q1, q2, q3, q4, fun c d c1 c2 d1 d2 _ => q5 c d c1 c2 d1 d2 (by omega)⟩
    · obtain ⟨k, rfl⟩ : ∃ m, k = m + 1 := ⟨k - 1, by omega⟩
      simp only [spec_NearestWheels.l0]; rw [b_wrap _ (by omega) (by omega), if_neg (by omega)]
  | succ A ihA =>
    intro s x y ha ha' hA h
    have inner : ∀ (B : Nat) (a x y : Int), 8 ≤ a → a ≤ most + 1 → most + 1 - a = B → (y = 0 ∧ s = 16 ∧ a = 8 ∨ y ≠ 0 ∧ (16 < s ∨ 8 < a) ∧ (x + y < s ∨ x + y = s ∧ x < a) ∧ Best num den most x y fun c d => c + d < s ∨ c + d = s ∧ c < a) →
        ∃ r, Answer num den most r ∧ Ev (fun k => spec_NearestWheels.l1 k num den most x y s a) r := by
      intro B
      induction B with
      | zero =>
        intro a x y hb hb' hB h
        have hx : y ≠ 0 ∧ 16 < s + 1 ∧ x + y < s + 1 ∧ Best num den most x y fun c d => c + d < s + 1 := by
          rcases h with h | h
          · omega
          · obtain ⟨q0, _, qs, q1, q2, q3, q4, q5⟩ := h
            exact ⟨q0, by omega, by omega, q1, q2, q3, q4, fun c d c1 c2 d1 d2 hc => q5 c d c1 c2 d1 d2 (by omega)⟩
        obtain ⟨r, hr, ⟨N, hN⟩⟩ := ihA (s + 1) x y (by omega) (by omega) (by omega) (Or.inr hx)
        refine ⟨r, hr, ⟨N + 1, fun k hk => ?_⟩⟩
        obtain ⟨k, rfl⟩ : ∃ m, k = m + 1 := ⟨k - 1, by omega⟩
        simp only [spec_NearestWheels.l1]; rw [if_neg (by omega), b_wrap _ (by omega) (by omega)]
        exact hN k (by omega)
      | succ B ihB =>
        intro a x y hb hb' hB h
        by_cases hin : 8 ≤ s - a ∧ s - a ≤ most
        · have hab := (abs_t num den a (s - a) h1 h2 h3 h4 hb (by omega) hin.1 (by omega)).2
          have take : Best num den most a (s - a) (fun c d => c + d < s ∨ c + d = s ∧ c < a + 1) → ∃ r, Answer num den most r ∧ Ev (fun k => spec_NearestWheels.l1 k num den most a (s - a) s (a + 1)) r :=
            fun hb1 => ihB (a + 1) a (s - a) (by omega) (by omega) (by omega) (Or.inr ⟨by omega, by omega, by omega, hb1⟩)
          by_cases hx : y = 0
          · obtain ⟨r, hr, ⟨N, hN⟩⟩ := take ⟨hb, by omega, hin.1, hin.2, fun c d c1 c2 d1 d2 hc => by
              rcases h with h | h
              · have e1 : c = a := by omega
                have e2 : d = s - a := by omega
                subst e1 e2; unfold K; omega
              · exact absurd hx h.1⟩
            refine ⟨r, hr, ⟨N + 1, fun k hk => ?_⟩⟩
            obtain ⟨k, rfl⟩ : ∃ m, k = m + 1 := ⟨k - 1, by omega⟩
            simp only [spec_NearestWheels.l1]; rw [if_pos (by omega), b_wrap (s - a) (by omega) (by omega), spec_l00In_t]; simp only [Option.bind_some]
            rw [if_pos (by simpa using hin), if_pos hx, b_wrap _ (by omega) (by omega)]
            exact hN k (by omega)
          · obtain ⟨_, _, qs, q1, q2, q3, q4, q5⟩ := h.resolve_left (fun h => hx h.1)
            have hxy := (abs_t num den x y h1 h2 h3 h4 q1 (by omega) q3 (by omega)).2
            have o1 := off_bd num den a (s - a) h1 h2 h3 h4 hb (by omega) hin.1 (by omega)
            have o2 := off_bd num den x y h1 h2 h3 h4 q1 (by omega) q3 (by omega)
            have p1 := offb (off num den a (s - a)) y (by omega) (by omega) (by omega) (by omega)
            have p2 := offb (off num den x y) (s - a) (by omega) (by omega) (by omega) (by omega)
            by_cases hlt : off num den a (s - a) * y < off num den x y * (s - a)
            · have hK : K num den a (s - a) x y := Or.inl hlt
              obtain ⟨r, hr, ⟨N, hN⟩⟩ := take ⟨hb, by omega, hin.1, hin.2, fun c d c1 c2 d1 d2 hc => by
                by_cases e : c = a ∧ d = s - a
                · obtain ⟨rfl, rfl⟩ := e; unfold K; omega
                · exact K_trans (by omega) (by omega) (by omega) hK (q5 c d c1 c2 d1 d2 (by omega))⟩
              refine ⟨r, hr, ⟨N + 1, fun k hk => ?_⟩⟩
              obtain ⟨k, rfl⟩ : ∃ m, k = m + 1 := ⟨k - 1, by omega⟩
              simp only [spec_NearestWheels.l1]; rw [if_pos (by omega), b_wrap (s - a) (by omega) (by omega), spec_l00In_t]; simp only [Option.bind_some]
              rw [if_pos (by simpa using hin), if_neg hx, hab]; simp only [Option.bind_some]
              rw [hxy]; simp only [Option.bind_some]
              rw [b_wrap (_ * y) (by omega) (by omega), b_wrap (_ * (s - a)) (by omega) (by omega), if_pos hlt, b_wrap _ (by omega) (by omega)]
              exact hN k (by omega)
            · have hK : K num den x y a (s - a) := by unfold K; omega
              obtain ⟨r, hr, ⟨N, hN⟩⟩ := ihB (a + 1) x y (by omega) (by omega) (by omega) (Or.inr ⟨hx, by omega, by omega, q1, q2, q3, q4, fun c d c1 c2 d1 d2 hc => by
                by_cases e : c = a ∧ d = s - a
                · obtain ⟨rfl, rfl⟩ := e; exact hK
                · exact q5 c d c1 c2 d1 d2 (by omega)⟩)
              refine ⟨r, hr, ⟨N + 1, fun k hk => ?_⟩⟩
              obtain ⟨k, rfl⟩ : ∃ m, k = m + 1 := ⟨k - 1, by omega⟩
              simp only [spec_NearestWheels.l1]; rw [if_pos (by omega), b_wrap (s - a) (by omega) (by omega), spec_l00In_t]; simp only [Option.bind_some]
              rw [if_pos (by simpa using hin), if_neg hx, hab]; simp only [Option.bind_some]
              rw [hxy]; simp only [Option.bind_some]
              rw [b_wrap (_ * y) (by omega) (by omega), b_wrap (_ * (s - a)) (by omega) (by omega), if_neg hlt, b_wrap _ (by omega) (by omega)]
              exact hN k (by omega)
        · have hnx : y = 0 ∧ s = 16 ∧ a + 1 = 8 ∨ y ≠ 0 ∧ (16 < s ∨ 8 < a + 1) ∧ (x + y < s ∨ x + y = s ∧ x < a + 1) ∧ Best num den most x y fun c d => c + d < s ∨ c + d = s ∧ c < a + 1 := by
            rcases h with h | h
            · omega
            · obtain ⟨q0, qa, qs, q1, q2, q3, q4, q5⟩ := h
              exact Or.inr ⟨q0, by omega, by omega, q1, q2, q3, q4, fun c d c1 c2 d1 d2 hc => q5 c d c1 c2 d1 d2 (by omega)⟩
          obtain ⟨r, hr, ⟨N, hN⟩⟩ := ihB (a + 1) x y (by omega) (by omega) (by omega) hnx
          refine ⟨r, hr, ⟨N + 1, fun k hk => ?_⟩⟩
          obtain ⟨k, rfl⟩ : ∃ m, k = m + 1 := ⟨k - 1, by omega⟩
          simp only [spec_NearestWheels.l1]; rw [if_pos (by omega), b_wrap (s - a) (by omega) (by omega), spec_l00In_t]; simp only [Option.bind_some]
          rw [if_neg (by simpa using hin), b_wrap _ (by omega) (by omega)]
          exact hN k (by omega)
    have h' : y = 0 ∧ s = 16 ∧ (8 : Int) = 8 ∨ y ≠ 0 ∧ (16 < s ∨ (8 : Int) < 8) ∧ (x + y < s ∨ x + y = s ∧ x < 8) ∧ Best num den most x y fun c d => c + d < s ∨ c + d = s ∧ c < 8 := by
      rcases h with h | h
      · exact Or.inl ⟨h.1, h.2, rfl⟩
      · obtain ⟨q0, qa, qs, q1, q2, q3, q4, q5⟩ := h
        exact Or.inr ⟨q0, Or.inl qa, Or.inl qs, q1, q2, q3, q4, fun c d c1 c2 d1 d2 hc => q5 c d c1 c2 d1 d2 (by omega)⟩
    obtain ⟨r, hr, ⟨N, hN⟩⟩ := inner (most + 1 - 8).toNat 8 x y (by omega) (by omega) (by omega) h'
    refine ⟨r, hr, ⟨N + 1, fun k hk => ?_⟩⟩
    obtain ⟨k, rfl⟩ : ∃ m, k = m + 1 := ⟨k - 1, by omega⟩
    simp only [spec_NearestWheels.l0]; rw [b_wrap _ (by omega) (by omega), if_pos (by omega)]
    exact hN k (by omega)

end loops

theorem answer_one {num den most : Int} {r q : Int × Int × Int} (hr : Answer num den most r) (hq : Answer num den most q) : r = q := by
  obtain ⟨a, b, c⟩ := r
  obtain ⟨a', b', c'⟩ := q
  obtain ⟨rfl, q1, q2, q3, q4, q5⟩ := hr
  obtain ⟨rfl, p1, p2, p3, p4, p5⟩ := hq
  obtain ⟨e1, e2⟩ := K_anti (q5 a' b' p1 p2 p3 p4 trivial) (p5 a b q1 q2 q3 q4 trivial)
  dsimp at e1 e2
  subst e1 e2; rfl

theorem isWheel_n (a b : Int) : impl_isWheel.f a b = some (decide ((1 ≤ a ∧ a ≤ 1000) ∧ 1 ≤ b ∧ b ≤ 1000)) := by
  unfold impl_isWheel.f
  simp only [impl_inRange_t, Option.bind_some]
  by_cases h : 1 ≤ a ∧ a ≤ 1000
  · rw [if_pos (by simpa using h)]; simp [h]
  · rw [if_neg (by simpa using h)]; simp [h]

theorem nearest_t (num den most : Int) : ∃ r, Ev (fun k => impl_NearestWheels.f k num den most) r ∧ Ev (fun k => spec_NearestWheels.f k num den most) r ∧
    ((((1 ≤ num ∧ num ≤ 1000) ∧ 1 ≤ den ∧ den ≤ 1000) ∧ 8 ≤ most ∧ most ≤ 120) → Answer num den most r) := by
  by_cases h : ((1 ≤ num ∧ num ≤ 1000) ∧ 1 ≤ den ∧ den ≤ 1000) ∧ 8 ≤ most ∧ most ≤ 120
  · obtain ⟨⟨⟨a1, a2⟩, a3, a4⟩, a5, a6⟩ := h
    obtain ⟨r, hr, ⟨M, hM⟩⟩ := impl_l num den most a1 a2 a3 a4 a5 a6 (most + 1 - 8).toNat 8 0 0 0 (by omega) (by omega) (by omega) (Or.inl ⟨rfl, rfl⟩)
    obtain ⟨q, hq, ⟨L, hL⟩⟩ := spec_l num den most a1 a2 a3 a4 a5 a6 (2 * most + 1 - 16).toNat 16 0 0 (by omega) (by omega) (by omega) (Or.inl ⟨rfl, rfl⟩)
    have e := answer_one hr hq
    subst e
    refine ⟨r, ⟨M + 1, fun k hk => ?_⟩, ⟨L + 1, fun k hk => ?_⟩, fun _ => hr⟩
    · obtain ⟨k, rfl⟩ : ∃ m, k = m + 1 := ⟨k - 1, by omega⟩
      unfold impl_NearestWheels.f
      rw [isWheel_n]; simp only [Option.bind_some]
      rw [if_pos (by simp; omega), impl_inRange_t]; simp only [Option.bind_some, impl_NearestWheels.j0]
      rw [if_neg (by simp; omega)]
      exact hM k (by omega)
    · obtain ⟨k, rfl⟩ : ∃ m, k = m + 1 := ⟨k - 1, by omega⟩
      unfold spec_NearestWheels.f
      simp only [spec_l00In_t, Option.bind_some]
      rw [if_pos (by simp; omega), if_pos (by simp; omega)]; simp only [spec_NearestWheels.j0]
      rw [if_neg (by simp; omega)]
      exact hL k (by omega)
  · refine ⟨(0, 0, 2), ⟨1, fun k hk => ?_⟩, ⟨1, fun k hk => ?_⟩, fun h' => absurd h' h⟩
    · obtain ⟨k, rfl⟩ : ∃ m, k = m + 1 := ⟨k - 1, by omega⟩
      unfold impl_NearestWheels.f
      rw [isWheel_n]; simp only [Option.bind_some]
      by_cases c : (1 ≤ num ∧ num ≤ 1000) ∧ 1 ≤ den ∧ den ≤ 1000
      · rw [if_pos (by simpa using c), impl_inRange_t]; simp only [Option.bind_some, impl_NearestWheels.j0]
        rw [if_pos (by simp; omega)]
      · rw [if_neg (by simpa using c)]; simp only [impl_NearestWheels.j0, if_true]
    · obtain ⟨k, rfl⟩ : ∃ m, k = m + 1 := ⟨k - 1, by omega⟩
      unfold spec_NearestWheels.f
      simp only [spec_l00In_t, Option.bind_some, spec_NearestWheels.j0]
      by_cases c : 1 ≤ num ∧ num ≤ 1000
      · rw [if_pos (by simpa using c)]
        by_cases c' : 1 ≤ den ∧ den ≤ 1000
        · rw [if_pos (by simpa using c'), if_pos (by simp; omega)]
        · rw [if_neg (by simpa using c')]; simp
      · rw [if_neg (by simpa using c)]; simp

theorem FnExactNearestWheels : laws_FnExactNearestWheels.Pure := by
  intro a b c _ _ _
  obtain ⟨r, ⟨M, hM⟩, ⟨L, hL⟩, _⟩ := nearest_t a b c
  have hM : ∀ k, M ≤ k → impl_NearestWheels.f k a b c = some r := hM
  have hL : ∀ k, L ≤ k → spec_NearestWheels.f k a b c = some r := hL
  refine ⟨M + L, ?_⟩
  unfold laws_FnExactNearestWheels.f
  rw [hL (M + L) (by omega)]; simp only [Option.bind_some]
  rw [hM (M + L) (by omega)]; simp

end Go.Proofs.Ytobngbphmhggkaa.Pure
