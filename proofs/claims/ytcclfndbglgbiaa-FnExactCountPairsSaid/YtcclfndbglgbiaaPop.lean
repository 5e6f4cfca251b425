/- The count of the bits of a word: what bits.OnesCount64's steps compute is the sum of the bits. Plain laws. -/
import Derived.Test.YtcclfndbglgbiaaPFnExactCountInkx1
namespace Go.Proofs.Ytcclfndbglgbiaa.Pop
open Go.RowKit
set_option linter.unusedVariables false
def pop : Nat → Nat → Nat
  | 0, _ => 0
  | k + 1, x => x % 2 + pop k (x / 2)
def msk (b : Nat) : Nat → Nat
  | 0 => 0
  | n + 1 => msk b n * 256 + b
theorem and_split (hi lo M mb : Nat) (h1 : lo < 256) (h2 : mb < 256) : (hi * 256 + lo) &&& (M * 256 + mb) = (hi &&& M) * 256 + (lo &&& mb) := by
  have h3 : lo &&& mb < 2 ^ 8 := Nat.lt_of_le_of_lt Nat.and_le_left h1
  apply Nat.eq_of_testBit_eq
  intro j
  have e1 : (hi * 256 + lo).testBit j = if j < 8 then lo.testBit j else hi.testBit (j - 8) := by
    rw [show hi * 256 + lo = 2 ^ 8 * hi + lo by omega]; exact Nat.testBit_two_pow_mul_add hi h1 j
  have e2 : (M * 256 + mb).testBit j = if j < 8 then mb.testBit j else M.testBit (j - 8) := by
    rw [show M * 256 + mb = 2 ^ 8 * M + mb by omega]; exact Nat.testBit_two_pow_mul_add M h2 j
  have e3 : ((hi &&& M) * 256 + (lo &&& mb)).testBit j = if j < 8 then (lo &&& mb).testBit j else (hi &&& M).testBit (j - 8) := by
    rw [show (hi &&& M) * 256 + (lo &&& mb) = 2 ^ 8 * (hi &&& M) + (lo &&& mb) by omega]; exact Nat.testBit_two_pow_mul_add (hi &&& M) h3 j
  rw [Nat.testBit_and, e1, e2, e3]
  by_cases h : j < 8
  · simp only [if_pos h, Nat.testBit_and]
  · simp only [if_neg h, Nat.testBit_and]
def S1 (n x : Nat) : Nat := ((x / 2) &&& msk 85 n) + (x &&& msk 85 n)
def S2 (n x : Nat) : Nat := ((x / 4) &&& msk 51 n) + (x &&& msk 51 n)
def S3 (n x : Nat) : Nat := (x / 16 + x) &&& msk 15 n
def b1 (d : Nat) : Nat := ((d / 2) &&& 85) + (d &&& 85)
def b2 (d : Nat) : Nat := ((d / 4) &&& 51) + (d &&& 51)
def b3 (d : Nat) : Nat := (d / 16 + d) &&& 15
def p8 (d : Nat) : Nat := b3 (b2 (b1 d))
theorem f1 : ∀ (a : Fin 2) (d : Fin 256), ((a.val * 128 + d.val / 2) &&& 85) = ((d.val / 2) &&& 85) := by decide +kernel
theorem f2 : ∀ (a : Fin 4) (d : Fin 256), ((a.val * 64 + d.val / 4) &&& 51) = ((d.val / 4) &&& 51) := by decide +kernel
theorem g1 : ∀ d : Fin 256, b1 d.val < 256 := by decide +kernel
theorem g2 : ∀ d : Fin 256, b2 d.val ≤ 102 ∧ b2 d.val % 16 ≤ 6 := by decide +kernel
theorem g3 : ∀ d : Fin 256, p8 d.val = d.val % 2 + (d.val / 2) % 2 + (d.val / 4) % 2 + (d.val / 8) % 2 + (d.val / 16) % 2 + (d.val / 32) % 2 + (d.val / 64) % 2 + (d.val / 128) % 2 := by decide +kernel
theorem S1_step (n hi lo : Nat) (h : lo < 256) : S1 (n + 1) (hi * 256 + lo) = S1 n hi * 256 + b1 lo := by
  unfold S1 b1
  rw [show (hi * 256 + lo) / 2 = (hi / 2) * 256 + ((hi % 2) * 128 + lo / 2) by omega]
  simp only [msk]
  rw [and_split _ _ _ _ (by omega) (by omega), and_split _ _ _ _ h (by omega), f1 ⟨hi % 2, by omega⟩ ⟨lo, h⟩]
  simp only; omega
theorem S2_step (n hi lo : Nat) (h : lo < 256) : S2 (n + 1) (hi * 256 + lo) = S2 n hi * 256 + b2 lo := by
  unfold S2 b2
  rw [show (hi * 256 + lo) / 4 = (hi / 4) * 256 + ((hi % 4) * 64 + lo / 4) by omega]
  simp only [msk]
  rw [and_split _ _ _ _ (by omega) (by omega), and_split _ _ _ _ h (by omega), f2 ⟨hi % 4, by omega⟩ ⟨lo, h⟩]
  simp only; omega
theorem S3_step (n hi lo : Nat) (h : lo ≤ 102) (h' : hi % 16 ≤ 6) : S3 (n + 1) (hi * 256 + lo) = S3 n hi * 256 + b3 lo := by
  unfold S3 b3
  rw [show (hi * 256 + lo) / 16 + (hi * 256 + lo) = (hi / 16 + hi) * 256 + ((hi % 16) * 16 + (lo / 16 + lo)) by omega]
  simp only [msk]
  rw [and_split _ _ _ _ (by omega) (by omega)]
  rw [show (15 : Nat) = 2 ^ 4 - 1 from rfl, Nat.and_two_pow_sub_one_eq_mod, Nat.and_two_pow_sub_one_eq_mod]
  omega
theorem S2_mod (n y : Nat) : S2 n y % 16 ≤ 6 := by
  cases n with
  | zero => simp [S2, msk]
  | succ n =>
    rw [show y = (y / 256) * 256 + y % 256 by omega, S2_step n _ _ (by omega)]
    have := (g2 ⟨y % 256, by omega⟩).2
    simp only at this; omega
def F (n x : Nat) : Nat := S3 n (S2 n (S1 n x))
theorem F_step (n hi lo : Nat) (h : lo < 256) : F (n + 1) (hi * 256 + lo) = F n hi * 256 + p8 lo := by
  unfold F p8
  rw [S1_step n hi lo h, S2_step n _ _ (g1 ⟨lo, h⟩), S3_step n _ _ (g2 ⟨b1 lo, g1 ⟨lo, h⟩⟩).1 (S2_mod n _)]
theorem F_zero (x : Nat) : F 0 x = 0 := by simp [F, S3, msk]
theorem p8_le (d : Nat) (h : d < 256) : p8 d ≤ 8 := by have := g3 ⟨d, h⟩; simp only at this; omega
theorem q1 (hi lo : Nat) : (hi * 256 + lo) % 2 = lo % 2 := by omega
theorem q2 (hi lo : Nat) : (hi * 256 + lo) / 2 % 2 = lo / 2 % 2 := by omega
theorem q4 (hi lo : Nat) : (hi * 256 + lo) / 4 % 2 = lo / 4 % 2 := by omega
theorem q8 (hi lo : Nat) : (hi * 256 + lo) / 8 % 2 = lo / 8 % 2 := by omega
theorem q16 (hi lo : Nat) : (hi * 256 + lo) / 16 % 2 = lo / 16 % 2 := by omega
theorem q32 (hi lo : Nat) : (hi * 256 + lo) / 32 % 2 = lo / 32 % 2 := by omega
theorem q64 (hi lo : Nat) : (hi * 256 + lo) / 64 % 2 = lo / 64 % 2 := by omega
theorem q128 (hi lo : Nat) : (hi * 256 + lo) / 128 % 2 = lo / 128 % 2 := by omega
theorem q256 (hi lo : Nat) (h : lo < 256) : (hi * 256 + lo) / 256 = hi := by omega
theorem pop_step (k hi lo : Nat) (h : lo < 256) : pop (k + 8) (hi * 256 + lo) = p8 lo + pop k hi := by
  have P : ∀ m y, pop (m + 1) y = y % 2 + pop m (y / 2) := fun _ _ => rfl
  rw [P (k + 7), P (k + 6), P (k + 5), P (k + 4), P (k + 3), P (k + 2), P (k + 1), P k]
  simp only [Nat.div_div_eq_div_mul, Nat.reduceMul]
  rw [q256 hi lo h, q1, q2, q4, q8, q16, q32, q64, q128, show p8 lo = _ from g3 ⟨lo, h⟩]
  simp only [Nat.add_assoc]
theorem split8 (x : Nat) : x = (x / 256) * 256 + x % 256 := by omega
/-- The words' digits and what F makes of them. -/
theorem F_pop (x : Nat) : ∃ p0 p1 p2 p3 p4 p5 p6 p7 : Nat, (p0 ≤ 8 ∧ p1 ≤ 8 ∧ p2 ≤ 8 ∧ p3 ≤ 8 ∧ p4 ≤ 8 ∧ p5 ≤ 8 ∧ p6 ≤ 8 ∧ p7 ≤ 8) ∧
    F 8 x = ((((((((0 * 256 + p7) * 256 + p6) * 256 + p5) * 256 + p4) * 256 + p3) * 256 + p2) * 256 + p1) * 256 + p0) ∧ pop 64 x = p0 + (p1 + (p2 + (p3 + (p4 + (p5 + (p6 + (p7 + 0))))))) := by
  have L : ∀ y, y % 256 < 256 := fun y => Nat.mod_lt _ (by omega)
  have A : ∀ n y, F (n + 1) y = F n (y / 256) * 256 + p8 (y % 256) := fun n y => (congrArg (F (n + 1)) (split8 y)).trans (F_step n _ _ (L y))
  have B : ∀ k y, pop (k + 8) y = p8 (y % 256) + pop k (y / 256) := fun k y => (congrArg (pop (k + 8)) (split8 y)).trans (pop_step k _ _ (L y))
  refine ⟨p8 (x % 256), p8 (x / 256 % 256), p8 (x / 256 / 256 % 256), p8 (x / 256 / 256 / 256 % 256), p8 (x / 256 / 256 / 256 / 256 % 256), p8 (x / 256 / 256 / 256 / 256 / 256 % 256), p8 (x / 256 / 256 / 256 / 256 / 256 / 256 % 256), p8 (x / 256 / 256 / 256 / 256 / 256 / 256 / 256 % 256), ⟨p8_le _ (L _), p8_le _ (L _), p8_le _ (L _), p8_le _ (L _), p8_le _ (L _), p8_le _ (L _), p8_le _ (L _), p8_le _ (L _)⟩, ?_, ?_⟩
  · rw [A 7, A 6, A 5, A 4, A 3, A 2, A 1, A 0, F_zero]
  · rw [B 56, B 48, B 40, B 32, B 24, B 16, B 8, B 0]; simp only [pop]
theorem pop_le (x : Nat) : pop 64 x ≤ 64 := by
  obtain ⟨p0, p1, p2, p3, p4, p5, p6, p7, ⟨h0, h1, h2, h3, h4, h5, h6, h7⟩, _, e⟩ := F_pop x
  omega
theorem pop_zero : ∀ k, pop k 0 = 0
  | 0 => rfl
  | k + 1 => by simp [pop, pop_zero k]
/-! ### The steps over whole numbers -/
theorem wrap_u64 (n : Int) (h0 : 0 ≤ n) (h1 : n < 18446744073709551616) : IntKind.u64.wrap n = n := by simp [IntKind.wrap, IntKind.bits, IntKind.signed]; omega
theorem and_u64 (a b : Nat) (ha : a < 18446744073709551616) (hb : b < 18446744073709551616) : bits .and .u64 (a : Int) (b : Int) = ((a &&& b : Nat) : Int) :=
  (bits_nat .u64 64 (by decide) (fun n h0 h1 => wrap_u64 n h0 (by simpa using h1)) a b (by simpa using ha) (by simpa using hb)).1
theorem m1 : msk 85 8 = 6148914691236517205 := by decide
theorem m2 : msk 51 8 = 3689348814741910323 := by decide
theorem m3 : msk 15 8 = 1085102592571150095 := by decide
theorem digits (p0 p1 p2 p3 p4 p5 p6 p7 : Nat) (h0 : p0 ≤ 8) (h1 : p1 ≤ 8) (h2 : p2 ≤ 8) (h3 : p3 ≤ 8) (h4 : p4 ≤ 8) (h5 : p5 ≤ 8) (h6 : p6 ≤ 8) (h7 : p7 ≤ 8) (q : Nat)
    (hq : q = ((((((((0 * 256 + p7) * 256 + p6) * 256 + p5) * 256 + p4) * 256 + p3) * 256 + p2) * 256 + p1) * 256 + p0)) :
    ∃ u v t, q + q / 256 = u ∧ u + u / 65536 = v ∧ v + v / 4294967296 = t ∧ t < 1000000000000000000 ∧ t % 128 = p0 + (p1 + (p2 + (p3 + (p4 + (p5 + (p6 + (p7 + 0))))))) := by
  have D1 : ∀ H lo : Nat, lo < 256 → (H * 256 + lo) / 256 = H := fun H lo h => by omega
  have D2 : ∀ H lo : Nat, lo < 65536 → (H * 65536 + lo) / 65536 = H := fun H lo h => by omega
  have D3 : ∀ H lo : Nat, lo < 4294967296 → (H * 4294967296 + lo) / 4294967296 = H := fun H lo h => by omega
  have M : ∀ H lo : Nat, lo < 128 → (H * 256 + lo) % 128 = lo := fun H lo h => by omega
  refine ⟨_, _, _, rfl, rfl, rfl, ?_⟩
  have a1 : q / 256 = (((((((0 * 256 + p7) * 256 + p6) * 256 + p5) * 256 + p4) * 256 + p3) * 256 + p2) * 256 + p1) := by rw [hq]; exact D1 _ _ (by omega)
  have a2 : q + q / 256 = ((((((0 * 256 + p7) * 256 + (p6 + p7)) * 256 + (p5 + p6)) * 256 + (p4 + p5)) * 256 + (p3 + p4)) * 256 + (p2 + p3)) * 65536 + ((p1 + p2) * 256 + (p0 + p1)) := by rw [a1, hq]; omega
  have a3 : (q + q / 256) / 65536 = ((((((0 * 256 + p7) * 256 + (p6 + p7)) * 256 + (p5 + p6)) * 256 + (p4 + p5)) * 256 + (p3 + p4)) * 256 + (p2 + p3)) := by rw [a2]; exact D2 _ _ (by omega)
  have a4 : q + q / 256 + (q + q / 256) / 65536 = ((((0 * 256 + p7) * 256 + (p6 + p7)) * 256 + (p5 + p6 + p7)) * 256 + (p4 + p5 + p6 + p7)) * 4294967296 + (((((p3 + p4 + p5 + p6) * 256) + (p2 + p3 + p4 + p5)) * 256 + (p1 + p2 + p3 + p4)) * 256 + (p0 + p1 + p2 + p3)) := by rw [a3, a2]; omega
  have a5 : (q + q / 256 + (q + q / 256) / 65536) / 4294967296 = ((((0 * 256 + p7) * 256 + (p6 + p7)) * 256 + (p5 + p6 + p7)) * 256 + (p4 + p5 + p6 + p7)) := by rw [a4]; exact D3 _ _ (by omega)
  rw [a5, a4]
  clear a1 a2 a3 a4 a5 hq
  refine ⟨by omega, ?_⟩
  rw [show ((((0 * 256 + p7) * 256 + (p6 + p7)) * 256 + (p5 + p6 + p7)) * 256 + (p4 + p5 + p6 + p7)) * 4294967296 + (((((p3 + p4 + p5 + p6) * 256) + (p2 + p3 + p4 + p5)) * 256 + (p1 + p2 + p3 + p4)) * 256 + (p0 + p1 + p2 + p3)) + ((((0 * 256 + p7) * 256 + (p6 + p7)) * 256 + (p5 + p6 + p7)) * 256 + (p4 + p5 + p6 + p7))
    = (((((0 * 256 + p7) * 256 + (p6 + p7)) * 256 + (p5 + p6 + p7)) * 256 + (p4 + p5 + p6 + p7)) * 16777216 + ((((p3 + p4 + p5 + p6) * 256) + (p2 + p3 + p4 + p5)) * 256 + (p1 + p2 + p3 + p4)) + (((0 * 256 + p7) * 256 + (p6 + p7)) * 256 + (p5 + p6 + p7))) * 256 + (p0 + p1 + p2 + p3 + (p4 + p5 + p6 + p7)) by omega]
  rw [M _ _ (by omega)]; omega
theorem onesCount (x : Nat) (hx : x < 18446744073709551616) : PFnExactCountInk.bits_OnesCount64.f (x : Int) = some ((pop 64 x : Nat) : Int) := by
  have e1 : IntKind.u64.wrap ((bits .and .u64 ((x : Int) / 2) 6148914691236517205) + (bits .and .u64 (x : Int) 6148914691236517205)) = ((S1 8 x : Nat) : Int) := by
    rw [show ((x : Int) / 2) = ((x / 2 : Nat) : Int) by omega, show (6148914691236517205 : Int) = ((6148914691236517205 : Nat) : Int) from rfl, and_u64 _ _ (by omega) (by omega), and_u64 _ _ (by omega) (by omega)]
    unfold S1; rw [m1]
    have l1 : (x / 2) &&& 6148914691236517205 ≤ 6148914691236517205 := Nat.and_le_right
    have l2 : x &&& 6148914691236517205 ≤ 6148914691236517205 := Nat.and_le_right
    rw [wrap_u64 _ (by omega) (by omega)]; omega
  have b1' : S1 8 x ≤ 12297829382473034410 := by
    unfold S1; rw [m1]
    have l1 : (x / 2) &&& 6148914691236517205 ≤ 6148914691236517205 := Nat.and_le_right
    have l2 : x &&& 6148914691236517205 ≤ 6148914691236517205 := Nat.and_le_right
    omega
  unfold PFnExactCountInk.bits_OnesCount64.f
  rw [e1]
  generalize hy : S1 8 x = y at b1'
  have e2 : IntKind.u64.wrap ((bits .and .u64 ((y : Int) / 4) 3689348814741910323) + (bits .and .u64 (y : Int) 3689348814741910323)) = ((S2 8 y : Nat) : Int) := by
    rw [show ((y : Int) / 4) = ((y / 4 : Nat) : Int) by omega, show (3689348814741910323 : Int) = ((3689348814741910323 : Nat) : Int) from rfl, and_u64 _ _ (by omega) (by omega), and_u64 _ _ (by omega) (by omega)]
    unfold S2; rw [m2]
    have l1 : (y / 4) &&& 3689348814741910323 ≤ 3689348814741910323 := Nat.and_le_right
    have l2 : y &&& 3689348814741910323 ≤ 3689348814741910323 := Nat.and_le_right
    rw [wrap_u64 _ (by omega) (by omega)]; omega
  have b2' : S2 8 y ≤ 7378697629483820646 := by
    unfold S2; rw [m2]
    have l1 : (y / 4) &&& 3689348814741910323 ≤ 3689348814741910323 := Nat.and_le_right
    have l2 : y &&& 3689348814741910323 ≤ 3689348814741910323 := Nat.and_le_right
    omega
  rw [e2]
  generalize hz : S2 8 y = z at b2'
  have e3 : bits .and .u64 (IntKind.u64.wrap ((z : Int) / 16 + (z : Int))) 1085102592571150095 = ((S3 8 z : Nat) : Int) := by
    rw [wrap_u64 _ (by omega) (by omega), show ((z : Int) / 16 + (z : Int)) = ((z / 16 + z : Nat) : Int) by omega, show (1085102592571150095 : Int) = ((1085102592571150095 : Nat) : Int) from rfl, and_u64 _ _ (by omega) (by omega)]
    unfold S3; rw [m3]
  rw [e3]
  obtain ⟨p0, p1, p2, p3, p4, p5, p6, p7, ⟨h0, h1, h2, h3, h4, h5, h6, h7⟩, e, e'⟩ := F_pop x
  rw [e']
  unfold F at e
  rw [hy, hz] at e
  rw [e]
  generalize hq : ((((((((0 * 256 + p7) * 256 + p6) * 256 + p5) * 256 + p4) * 256 + p3) * 256 + p2) * 256 + p1) * 256 + p0) = q
  obtain ⟨u, v, t, hu, hv, ht, tb, hm⟩ := digits p0 p1 p2 p3 p4 p5 p6 p7 h0 h1 h2 h3 h4 h5 h6 h7 q hq.symm
  rw [← hm]
  clear hm e e' e1 e2 e3 hq hy hz b1' b2' h0 h1 h2 h3 h4 h5 h6 h7 hx
  have v1 : v ≤ t := by omega
  have u1 : u ≤ v := by clear ht; omega
  have q1 : q ≤ u := by clear hv ht; omega
  have W : ∀ n : Nat, n < 1000000000000000000 → IntKind.u64.wrap ((n : Nat) : Int) = (n : Int) := fun n hn => wrap_u64 _ (by omega) (by omega)
  have e4 : IntKind.u64.wrap ((q : Int) + (q : Int) / 256) = (u : Int) := by rw [show ((q : Int) + (q : Int) / 256) = ((q + q / 256 : Nat) : Int) by omega, hu]; exact W u (by clear hu hv ht; omega)
  have e5 : IntKind.u64.wrap ((u : Int) + (u : Int) / 65536) = (v : Int) := by rw [show ((u : Int) + (u : Int) / 65536) = ((u + u / 65536 : Nat) : Int) by omega, hv]; exact W v (by clear hu hv ht; omega)
  have e6 : IntKind.u64.wrap ((v : Int) + (v : Int) / 4294967296) = (t : Int) := by rw [show ((v : Int) + (v : Int) / 4294967296) = ((v + v / 4294967296 : Nat) : Int) by omega, ht]; exact W t tb
  rw [e4, e5, e6]
  clear e4 e5 e6 hu hv ht v1 u1 q1 W
  rw [show wrap64 ((t : Nat) : Int) = (t : Int) by unfold wrap64; omega]
  rw [show (127 : Int) = 2 ^ 7 - 1 from rfl, bits_mask .i64 63 (by decide) (fun n h0 h1 => by
    have h2 : n < 9223372036854775808 := by simpa using h1
    rw [IntKind.wrap_i64]; omega) 7 (by decide) _ (by omega) (by
    have h3 : (t : Int) < 9223372036854775808 := by omega
    simpa using h3)]
  congr 1
end Go.Proofs.Ytcclfndbglgbiaa.Pop
