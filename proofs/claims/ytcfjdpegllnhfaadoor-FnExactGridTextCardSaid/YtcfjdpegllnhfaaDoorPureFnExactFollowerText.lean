/- The pure statement of the law FnExactFollowerText is proved: for every input that the law speaks of, the law's function answers true. No conditions beyond the statement's own. -/
import Derived.Test.YtcfjdpegllnhfaaDoorFFnExactFollowerTextx
import Derived.Test.YtcfjdpegllnhfaaDoorShapeFnExactFollowerText
import Derived.Lib.ItoaMem
namespace Go.Proofs.YtcfjdpegllnhfaaDoor.Pure
open Go.RowKit Go.Proofs.YtcfjdpegllnhfaaDoor.FFnExactFollowerText Go.Proofs.YtcfjdpegllnhfaaDoorW.PrintWords Go.Proofs.YtcfjdpegllnhfaaDoorW.PrintLast
set_option linter.unusedVariables false

theorem b_wrap (x : Int) (h : -9223372036854775808 ≤ x) (h' : x ≤ 9223372036854775807) : wrap64 x = x := by
  unfold wrap64; omega

theorem b_rd (l : List Int) (i : Nat) (h : i < l.length) : rd l (i : Int) = l[i] := by
  unfold rd; rw [List.getD_eq_getElem?_getD, Int.toNat_natCast, List.getElem?_eq_getElem h]; rfl

theorem b_take (l : List Int) (i : Nat) (h : i < l.length) : l.take (i + 1) = l.take i ++ [l[i]] := by
  rw [List.take_succ_eq_append_getElem h]

theorem b_set (x : List Int) (i : Nat) (v : Int) (h : i < x.length) : (x.set i v).take (i + 1) = x.take i ++ [v] := by
  have h' : i < (x.set i v).length := by rw [List.length_set]; exact h
  rw [List.take_succ_eq_append_getElem h', List.getElem_set_self, List.take_set_of_le (Nat.le_refl i)]
theorem impl_inRange_t (a b c : Int) : impl_inRange.f a b c = some (decide (b ≤ a ∧ a ≤ c)) := by
  unfold impl_inRange.f
  by_cases h : b ≤ a
  · rw [if_pos h]; simp [h]
  · rw [if_neg h]; simp [h]
theorem spec_l00In_t (a b c : Int) : spec_l00In.f a b c = some (decide (b ≤ a ∧ a ≤ c)) := by
  unfold spec_l00In.f
  by_cases h : b ≤ a
  · rw [if_pos h]; simp [h]
  · rw [if_neg h]; simp [h]
theorem dg_t (n : Nat) (h : n < 9000000000000000000) : strOfNums [(wrap64 (48 + Int.tmod (n : Int) 10)) % 256] = ⟨#[UInt8.ofNat (48 + n % 10)]⟩ := by
  have e : Int.tmod (n : Int) 10 = ((n % 10 : Nat) : Int) := rfl
  rw [e, b_wrap _ (by omega) (by omega)]
  have e2 : ((48 : Int) + ((n % 10 : Nat) : Int)) % 256 = ((48 + n % 10 : Nat) : Int) := by omega
  rw [e2]
  show (⟨[UInt8.ofNat ((48 + n % 10 : Nat) : Int).toNat].toArray⟩ : ByteArray) = _
  rw [Int.toNat_natCast]
theorem sz_l (l : List UInt8) : (⟨l.toArray⟩ : ByteArray).size = l.length := by simp [ByteArray.size]
theorem app_l (l : List UInt8) (d : UInt8) : (⟨l.toArray⟩ : ByteArray) ++ (⟨#[d]⟩ : ByteArray) = ⟨(l ++ [d]).toArray⟩ := by
  apply ByteArray.ext
  simp [ByteArray.data_append]
theorem dec_len : ∀ (k n : Nat), n < 10 ^ (k + 1) → (Lib.decDigits n).length ≤ k + 1
  | 0, n, h => by rw [Lib.decDigits, dif_pos (by simpa using h)]; simp
  | k + 1, n, h => by
    rw [Lib.decDigits]
    split
    · simp
    · rw [List.length_append]
      have := dec_len k (n / 10) (by rw [Nat.pow_succ] at h; omega)
      simp only [List.length_singleton]
      omega
theorem dec_t : ∀ (k n : Nat), k ≤ 17 → n < 10 ^ (k + 1) → spec_Decimal.f (k + 1) (n : Int) = some ⟨(Lib.decDigits n).toArray⟩
  | k, n, hk, h => by
    have hn : n < 1000000000000000000 := Nat.lt_of_lt_of_le h (Nat.le_trans (Nat.pow_le_pow_right (by decide) (show k + 1 ≤ 18 by omega)) (by decide))
    unfold spec_Decimal.f
    by_cases h1 : n < 10
    · rw [if_pos (by omega), dg_t n (by omega), Lib.decDigits, dif_pos h1, Nat.mod_eq_of_lt h1]
    · rw [if_neg (by omega)]
      have e : Int.tdiv (n : Int) 10 = ((n / 10 : Nat) : Int) := rfl
      rw [e, b_wrap _ (by omega) (by omega)]
      match k, hk, h with
      | 0, _, h => exact absurd h (by simpa using h1)
      | k + 1, hk, h =>
        have hl := dec_len k (n / 10) (by rw [Nat.pow_succ] at h; omega)
        rw [dec_t k (n / 10) (by omega) (by rw [Nat.pow_succ] at h; omega)]
        simp only [Option.bind_some]
        rw [dg_t n (by omega), sz_l, if_pos (by have : (⟨#[UInt8.ofNat (48 + n % 10)]⟩ : ByteArray).size = 1 := rfl; omega), app_l]
        conv => rhs; rw [Lib.decDigits, dif_neg h1]
theorem dec_i (k : Nat) (a : Int) (h0 : 0 ≤ a) (h1 : a < 10 ^ (k + 1)) (hk : k ≤ 17) : spec_Decimal.f (k + 1) a = some ⟨(Lib.itoa a).toArray⟩ := by
  obtain ⟨n, rfl⟩ := Int.eq_ofNat_of_zero_le h0
  rw [Lib.itoa_nonneg]
  exact dec_t k n hk (by exact_mod_cast h1)
theorem itoa_len (k : Nat) (a : Int) (h0 : 0 ≤ a) (h1 : a < 10 ^ (k + 1)) : (Lib.itoa a).length ≤ k + 1 := by
  obtain ⟨n, rfl⟩ := Int.eq_ofNat_of_zero_le h0
  rw [Lib.itoa_nonneg]
  exact dec_len k n (by exact_mod_cast h1)
theorem FnExactFollowerText (a0_0 : Int) (a0_1 : Int) (hF0 : F25v (a0_0, a0_1)) : ∃ k, laws_FnExactFollowerText.f k a0_0 a0_1 = some true := by
  refine ⟨10, ?_⟩
  unfold laws_FnExactFollowerText.f laws_toFollower.f spec_FollowerText.f impl_FollowerText.f impl_ValidFollower.f spec_l03Ok.f impl_isSpring.f
  simp only [spec_l00In_t, impl_inRange_t, Option.bind_some]
  by_cases h : 1 ≤ a0_0 ∧ a0_0 ≤ 20000
  · by_cases h' : 1 ≤ a0_1 ∧ a0_1 ≤ 10000
    · have l0 := itoa_len 9 a0_0 (by omega) (by omega)
      have l1 := itoa_len 9 a0_1 (by omega) (by omega)
      simp only [decide_eq_true h, decide_eq_true h', if_true, Option.bind_some]
      unfold spec_l03Text.f impl_decimal.f
      rw [dec_i 9 a0_0 (by omega) (by omega) (by omega), dec_i 9 a0_1 (by omega) (by omega) (by omega)]
      rw [if_neg (by omega), if_pos (by omega), if_neg (by omega), if_pos (by omega)]
      simp only [Option.bind_some, ByteArray.size_append, sz_l]
      have s9 : [(102 : UInt8), 111, 108, 108, 111, 119, 101, 114, 32].length = 9 := rfl
      have s1 : [(32 : UInt8)].length = 1 := rfl
      rw [s9, s1, if_pos (by omega), if_pos (by omega), if_pos (by omega), Option.bind_some, Option.bind_some, Option.bind_some, if_pos rfl]
    · have h2 : decide (1 ≤ a0_1 ∧ a0_1 ≤ 10000) = false := decide_eq_false h'
      simp [h2, h]
  · have h2 : decide (1 ≤ a0_0 ∧ a0_0 ≤ 20000) = false := decide_eq_false h
    simp [h2]

end Go.Proofs.YtcfjdpegllnhfaaDoor.Pure
