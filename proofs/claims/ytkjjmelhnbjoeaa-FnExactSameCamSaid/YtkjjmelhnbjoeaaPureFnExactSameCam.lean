/- The pure statement of the law FnExactSameCam is proved: for every input that the law speaks of, the law's function answers true. No conditions beyond the statement's own. -/
import Derived.Test.YtkjjmelhnbjoeaaPFnExactSameCamx1
namespace Go.Proofs.Ytkjjmelhnbjoeaa.Pure
open Go.RowKit Go.Proofs.Ytkjjmelhnbjoeaa.PFnExactSameCam Go.Proofs.YtkjjmelhnbjoeaaW.PrintWords Go.Proofs.YtkjjmelhnbjoeaaW.PrintLast
set_option linter.unusedVariables false

theorem b_wrap (x : Int) (h : -9223372036854775808 ≤ x) (h' : x ≤ 9223372036854775807) : wrap64 x = x := by
  unfold wrap64; omega

theorem b_rd (l : List Int) (i : Nat) (h : i < l.length) : rd l (i : Int) = l[i] := by
  unfold rd; rw [List.getD_eq_getElem?_getD, Int.toNat_natCast, List.getElem?_eq_getElem h]; rfl

theorem b_take (l : List Int) (i : Nat) (h : i < l.length) : l.take (i + 1) = l.take i ++ [l[i]] := by
  rw [List.take_succ_eq_append_getElem h]

theorem b_set (x : List Int) (i : Nat) (v : Int) (h : i < x.length) : (x.set i v).take (i + 1) = x.take i ++ [v] := by
  have h' : i < (x.set i v).length := by rw [List.length_set]; exact h
  rw [List.take_succ_eq_append_getElem h', List.getElem_set_self, List.take_set_of_le (Nat.le_refl i)]
theorem laws_toCam_l (l : List Int) (hl : l.length ≤ 140737488355328) (d : Nat) : ∀ (k : Nat) (x : List Int) (i : Nat), l.length - i = d → d < k → x.length = l.length → x.take i = l.take i → laws_toCam.l0 k l x (i : Int) = some l := by
  induction d with
  | zero =>
    intro k x i hd hk hx ht
    obtain ⟨k, rfl⟩ : ∃ m, k = m + 1 := ⟨k - 1, by omega⟩
    simp only [laws_toCam.l0]; rw [if_neg (by omega)]
    rw [List.take_of_length_le (by omega), List.take_of_length_le (by omega)] at ht
    rw [ht]
  | succ d ih =>
    intro k x i hd hk hx ht
    obtain ⟨k, rfl⟩ : ∃ m, k = m + 1 := ⟨k - 1, by omega⟩
    simp only [laws_toCam.l0]; rw [if_pos (by omega), if_pos (by omega), if_pos (by omega)]
    rw [b_wrap _ (by omega) (by omega), b_rd l i (by omega), Int.toNat_natCast]
    rw [show ((i : Int) + 1) = ((i + 1 : Nat) : Int) by omega]
    refine ih k _ (i + 1) (by omega) (by omega) (by rw [List.length_set]; exact hx) ?_
    rw [b_set x i _ (by omega), b_take l i (by omega), ht]

theorem laws_toCam_t (l : List Int) (hl : l.length ≤ 1048576) (k : Nat) (hk : l.length < k) : laws_toCam.f k l = some l := by
  unfold laws_toCam.f
  rw [if_pos (by omega), if_pos (by omega), Int.toNat_natCast]
  exact laws_toCam_l l (by omega) l.length k _ 0 (by omega) hk (by simp) rfl
theorem laws_eqCam_l (l : List Int) (hl : l.length ≤ 1048576) (d : Nat) : ∀ (k : Nat) (i : Nat), l.length - i = d → d < k → laws_eqCam.l0 k l l (i : Int) = some true := by
  induction d with
  | zero =>
    intro k i hd hk
    obtain ⟨k, rfl⟩ : ∃ m, k = m + 1 := ⟨k - 1, by omega⟩
    simp only [laws_eqCam.l0]; rw [if_neg (by omega)]
  | succ d ih =>
    intro k i hd hk
    obtain ⟨k, rfl⟩ : ∃ m, k = m + 1 := ⟨k - 1, by omega⟩
    simp only [laws_eqCam.l0]; rw [if_pos (by omega), if_pos (by omega), if_pos (by omega), if_pos trivial]
    rw [b_wrap _ (by omega) (by omega), show ((i : Int) + 1) = ((i + 1 : Nat) : Int) by omega]
    exact ih k (i + 1) (by omega) (by omega)

theorem laws_eqCam_t (l : List Int) (hl : l.length ≤ 1048576) (k : Nat) (hk : l.length < k) : laws_eqCam.f k l l = some true := by
  unfold laws_eqCam.f
  rw [if_pos rfl]
  exact laws_eqCam_l l hl l.length k 0 (by omega) hk

theorem same_l (a b : List Int) (ha : a.length ≤ 1048576) (hab : a.length = b.length) (d : Nat) : ∀ (k : Nat) (i : Nat), a.length - i = d → d < k →
    ∃ r, spec_l01Same.l0 k a b (i : Int) = some r ∧ impl_Cam_int16.l0 k a b (a.length : Int) (i : Int) = some r := by
  induction d with
  | zero =>
    intro k i hd hk
    obtain ⟨k, rfl⟩ : ∃ m, k = m + 1 := ⟨k - 1, by omega⟩
    exact ⟨true, by simp only [spec_l01Same.l0]; rw [if_neg (by omega)], by simp only [impl_Cam_int16.l0]; rw [if_neg (by omega)]⟩
  | succ d ih =>
    intro k i hd hk
    obtain ⟨k, rfl⟩ : ∃ m, k = m + 1 := ⟨k - 1, by omega⟩
    simp only [spec_l01Same.l0, impl_Cam_int16.l0]
    have p1 : (i : Int) < (a.length : Int) := by omega
    have p2 : 0 ≤ (i : Int) := by omega
    have p3 : (i : Int) < (b.length : Int) := by omega
    simp only [if_pos p1, if_pos p2, if_pos p3]
    by_cases h : rd a (i : Int) = rd b (i : Int)
    · simp only [if_pos h]
      rw [b_wrap _ (by omega) (by omega), show ((i : Int) + 1) = ((i + 1 : Nat) : Int) by omega]
      exact ih k (i + 1) (by omega) (by omega)
    · simp only [if_neg h]; exact ⟨_, rfl, rfl⟩

theorem same_t (a b : List Int) (ha : a.length ≤ 1048576) (k : Nat) (hk : a.length < k) : ∃ r, spec_SameCam.f k a b = some r ∧ impl_SameCam.f k a b = some r := by
  unfold spec_SameCam.f impl_SameCam.f spec_l01Same.f impl_Cam_int16.f
  by_cases h : (a.length : Int) = (b.length : Int)
  · rw [if_pos h, if_pos h]
    obtain ⟨r, h1, h2⟩ := same_l a b ha (by omega) a.length k 0 (by omega) hk
    exact ⟨r, by rw [show ((0 : Int)) = ((0 : Nat) : Int) from rfl, h1]; rfl, by rw [show ((0 : Int)) = ((0 : Nat) : Int) from rfl, h2]; rfl⟩
  · rw [if_neg h, if_neg h]; exact ⟨false, rfl, rfl⟩

theorem FnExactSameCam : laws_FnExactSameCam.Pure := by
  intro a b _ _ _ _ _ _
  by_cases ha : (a.length : Int) > 1048576
  · exact ⟨0, by unfold laws_FnExactSameCam.f; rw [if_pos ha]⟩
  by_cases hb : (b.length : Int) > 1048576
  · exact ⟨0, by unfold laws_FnExactSameCam.f; rw [if_neg ha, if_pos hb]⟩
  obtain ⟨r, h1, h2⟩ := same_t a b (by omega) 1048577 (by omega)
  refine ⟨1048577, ?_⟩
  unfold laws_FnExactSameCam.f
  generalize hk : (1048577 : Nat) = k at h1 h2 ⊢
  rw [if_neg ha, if_neg hb]
  simp only [laws_toCam_t a (by omega) k (by omega), laws_toCam_t b (by omega) k (by omega), Option.bind_some, h1, h2, laws_eqCam_t a (by omega) k (by omega), laws_eqCam_t b (by omega) k (by omega), if_true]
  simp

end Go.Proofs.Ytkjjmelhnbjoeaa.Pure
