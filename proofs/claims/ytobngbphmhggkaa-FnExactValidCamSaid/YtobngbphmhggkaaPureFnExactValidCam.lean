/- The pure statement of the law FnExactValidCam is proved: for every input that the law speaks of, the law's function answers true. No conditions beyond the statement's own. -/
import Derived.Test.YtobngbphmhggkaaFFnExactValidCamx
namespace Go.Proofs.Ytobngbphmhggkaa.Pure
open Go.RowKit Go.Proofs.Ytobngbphmhggkaa.FFnExactValidCam Go.Proofs.YtobngbphmhggkaaW.PrintWords Go.Proofs.YtobngbphmhggkaaW.PrintLast
set_option linter.unusedVariables false

theorem b_wrap (x : Int) (h : -9223372036854775808 ≤ x) (h' : x ≤ 9223372036854775807) : wrap64 x = x := by
  unfold wrap64; omega

theorem b_rd (l : List Int) (i : Nat) (h : i < l.length) : rd l (i : Int) = l[i] := by
  unfold rd; rw [List.getD_eq_getElem?_getD, Int.toNat_natCast, List.getElem?_eq_getElem h]; rfl

theorem b_take (l : List Int) (i : Nat) (h : i < l.length) : l.take (i + 1) = l.take i ++ [l[i]] := by
  rw [List.take_succ_eq_append_getElem h]

theorem b_set (x : List Int) (i : Nat) (v : Int) (h : i < x.length) : (x.set i v).take (i + 1) = x.take i ++ [v] := by
  have h' : i < (x.set i v).length := by rw [List.length_set]; exact h
  rw [List.take_succ_eq_append_getElem h', List.getElem_set_self, List.take_set_of_le (Nat.le_refl i)]
theorem laws_toCam_l (l : List Int) (hl : l.length ≤ 140737488355328) (d : Nat) : ∀ (k : Nat) (x : List Int) (i : Nat), l.length - i = d → d < k → x.length = l.length → x.take i = l.take i → laws_toCam.l0 k l x (i : Int) = some l := by
  induction d with
  | zero =>
    intro k x i hd hk hx ht
    obtain ⟨k, rfl⟩ : ∃ m, k = m + 1 := ⟨k - 1, by omega⟩
    simp only [laws_toCam.l0]; rw [if_neg (by omega)]
    rw [List.take_of_length_le (by omega), List.take_of_length_le (by omega)] at ht
    rw [ht]
  | succ d ih =>
    intro k x i hd hk hx ht
    obtain ⟨k, rfl⟩ : ∃ m, k = m + 1 := ⟨k - 1, by omega⟩
    simp only [laws_toCam.l0]; rw [if_pos (by omega), if_pos (by omega), if_pos (by omega)]
    rw [b_wrap _ (by omega) (by omega), b_rd l i (by omega), Int.toNat_natCast]
    rw [show ((i : Int) + 1) = ((i + 1 : Nat) : Int) by omega]
    refine ih k _ (i + 1) (by omega) (by omega) (by rw [List.length_set]; exact hx) ?_
    rw [b_set x i _ (by omega), b_take l i (by omega), ht]

theorem laws_toCam_t (l : List Int) (hl : l.length ≤ 1048576) (k : Nat) (hk : l.length < k) : laws_toCam.f k l = some l := by
  unfold laws_toCam.f
  rw [if_pos (by omega), if_pos (by omega), Int.toNat_natCast]
  exact laws_toCam_l l (by omega) l.length k _ 0 (by omega) hk (by simp) rfl
theorem laws_eqCam_l (l : List Int) (hl : l.length ≤ 1048576) (d : Nat) : ∀ (k : Nat) (i : Nat), l.length - i = d → d < k → laws_eqCam.l0 k l l (i : Int) = some true := by
  induction d with
  | zero =>
    intro k i hd hk
    obtain ⟨k, rfl⟩ : ∃ m, k = m + 1 := ⟨k - 1, by omega⟩
    simp only [laws_eqCam.l0]; rw [if_neg (by omega)]
  | succ d ih =>
    intro k i hd hk
    obtain ⟨k, rfl⟩ : ∃ m, k = m + 1 := ⟨k - 1, by omega⟩
    simp only [laws_eqCam.l0]; rw [if_pos (by omega), if_pos (by omega), if_pos (by omega), if_pos trivial]
    rw [b_wrap _ (by omega) (by omega), show ((i : Int) + 1) = ((i + 1 : Nat) : Int) by omega]
    exact ih k (i + 1) (by omega) (by omega)

theorem laws_eqCam_t (l : List Int) (hl : l.length ≤ 1048576) (k : Nat) (hk : l.length < k) : laws_eqCam.f k l l = some true := by
  unfold laws_eqCam.f
  rw [if_pos rfl]
  exact laws_eqCam_l l hl l.length k 0 (by omega) hk
theorem b_wf16 {l : List Int} (hw : ∀ x ∈ l, (Lit.int .i16 x).wf = true) : ∀ j : Nat, -32768 ≤ l.getD j 0 ∧ l.getD j 0 ≤ 32767 := by
  intro j
  rw [List.getD_eq_getElem?_getD]
  by_cases hj : j < l.length
  · rw [List.getElem?_eq_getElem hj]
    have := hw _ (List.getElem_mem hj)
    simp [Lit.wf, IntKind.min, IntKind.max, IntKind.bits, IntKind.signed] at this
    simpa using this
  · rw [List.getElem?_eq_none (by omega)]; simp

theorem b_rdN (x : List Int) (j : Nat) : rd x (j : Int) = x.getD j 0 := by unfold rd; rw [Int.toNat_natCast]
theorem impl_inRange_t (a b c : Int) : impl_inRange.f a b c = some (decide (b ≤ a ∧ a ≤ c)) := by
  unfold impl_inRange.f
  by_cases h : b ≤ a
  · rw [if_pos h]; simp [h]
  · rw [if_neg h]; simp [h]
theorem spec_l00In_t (a b c : Int) : spec_l00In.f a b c = some (decide (b ≤ a ∧ a ≤ c)) := by
  unfold spec_l00In.f
  by_cases h : b ≤ a
  · rw [if_pos h]; simp [h]
  · rw [if_neg h]; simp [h]
/-- What a valid cam is. -/
def Cam (l : List Int) : Prop := (8 ≤ l.length ∧ l.length ≤ 360) ∧ ∀ j, j < l.length → 0 ≤ l.getD j 0 ∧ l.getD j 0 ≤ 10000

theorem ok_l (l : List Int) (hl : l.length ≤ 360) (hb : ∀ j : Nat, -32768 ≤ l.getD j 0 ∧ l.getD j 0 ≤ 32767) (d : Nat) : ∀ (k i : Nat), l.length - i = d → d < k →
    ∃ r v, spec_l01Ok.l0 k l (i : Int) = some r ∧ impl_Cam_int16_c67_98.l0 k l (l.length : Int) (i : Int) = some v ∧ (r = !(decide (v ≥ 0))) ∧ (r = true ↔ ∀ j, i ≤ j → j < l.length → 0 ≤ l.getD j 0 ∧ l.getD j 0 ≤ 10000) := by
  induction d with
  | zero =>
    intro k i hd hk
    obtain ⟨k, rfl⟩ : ∃ m, k = m + 1 := ⟨k - 1, by omega⟩
    refine ⟨true, -1, ?_, ?_, by simp, ?_⟩
    · simp only [spec_l01Ok.l0]; rw [if_neg (by omega)]
    · simp only [impl_Cam_int16_c67_98.l0]; rw [if_neg (by omega)]
    · simp only [true_iff]; intro j h1 h2; omega
  | succ d ih =>
    intro k i hd hk
    obtain ⟨k, rfl⟩ : ∃ m, k = m + 1 := ⟨k - 1, by omega⟩
    have hbi := hb i
    have p1 : (i : Int) < (l.length : Int) := by omega
    have p2 : 0 ≤ (i : Int) := by omega
    simp only [spec_l01Ok.l0, impl_Cam_int16_c67_98.l0, if_pos p1, if_pos p2, b_rdN]
    unfold spec_l01Lift.f impl_ValidCam_1.f impl_isLift.f
    rw [b_wrap (l.getD i 0) (by omega) (by omega)]
    simp only [spec_l00In_t, impl_inRange_t, Option.bind_some]
    by_cases c : 0 ≤ l.getD i 0 ∧ l.getD i 0 ≤ 10000
    · obtain ⟨r, v, h1, h2, h3, h4⟩ := ih k (i + 1) (by omega) (by omega)
      refine ⟨r, v, ?_, ?_, h3, ?_⟩
      · rw [if_pos (by simpa using c), b_wrap _ (by omega) (by omega), show ((i : Int) + 1) = ((i + 1 : Nat) : Int) by omega]; exact h1
      · rw [if_neg (by simpa using c), b_wrap _ (by omega) (by omega), show ((i : Int) + 1) = ((i + 1 : Nat) : Int) by omega]; exact h2
      · rw [h4]
        refine ⟨fun h j q1 q2 => ?_, fun h j q1 q2 => h j (by omega) q2⟩
        by_cases e : j = i
        · subst e; exact c
        · exact h j (by omega) q2
    · refine ⟨false, i, ?_, ?_, by simp, ?_⟩
      · rw [if_neg (by rw [decide_eq_false c]; simp)]
      · rw [if_pos (by rw [decide_eq_false c]; rfl)]
      · refine ⟨(fun h => by cases h), fun h => absurd (h i (Nat.le_refl _) (by omega)) c⟩

theorem validcam_t (l : List Int) (hb : ∀ j : Nat, -32768 ≤ l.getD j 0 ∧ l.getD j 0 ≤ 32767) : ∃ r : Bool, (r = true ↔ Cam l) ∧ ∀ k, 400 ≤ k → spec_l01Ok.f k l = some r ∧ impl_ValidCam.f k l = some r := by
  by_cases h : 8 ≤ (l.length : Int) ∧ (l.length : Int) ≤ 360
  · obtain ⟨r, v, h1, h2, h3, h4⟩ := ok_l l (by omega) hb l.length 400 0 (by omega) (by omega)
    refine ⟨r, ?_, fun k hk => ?_⟩
    · rw [h4]; unfold Cam
      exact ⟨fun q => ⟨by omega, fun j hj => q j (by omega) hj⟩, fun q j _ hj => q.2 j hj⟩
    · have h1' := at_rounds (fun k => spec_l01Ok.mono_l k l ((0 : Nat) : Int)) hk h1
      have h2' := at_rounds (fun k => impl_Cam_int16_c67_98.mono_l k l (l.length : Int) ((0 : Nat) : Int)) hk h2
      unfold spec_l01Ok.f spec_l01Steps.f impl_ValidCam.f impl_Cam_steps.f impl_isSteps.f impl_Cam_int16_c67_66.f impl_Cam_int16_c67_98.f
      simp only [spec_l00In_t, impl_inRange_t, Option.bind_some]
      rw [if_pos (by simpa using h), if_pos (by simpa using h)]
      rw [show ((0 : Int)) = ((0 : Nat) : Int) from rfl, h1', h2']
      simp [h3]
  · refine ⟨false, ?_, fun k hk => ?_⟩
    · constructor
      · intro q; cases q
      · intro q; unfold Cam at q; omega
    · unfold spec_l01Ok.f spec_l01Steps.f impl_ValidCam.f impl_Cam_steps.f impl_isSteps.f
      simp only [spec_l00In_t, impl_inRange_t, Option.bind_some]
      rw [if_neg (by simpa using h), if_neg (by simpa using h)]
      exact ⟨rfl, rfl⟩

theorem FnExactValidCam : laws_FnExactValidCam.Pure := by
  intro l _ _ hw
  by_cases hl : (l.length : Int) > 1048576
  · exact ⟨0, by unfold laws_FnExactValidCam.f; rw [if_pos hl]⟩
  have hb := b_wf16 hw
  obtain ⟨r, _, hv⟩ := validcam_t l hb
  refine ⟨1048577, ?_⟩
  have T := laws_toCam_t l (by omega) 1048577 (by omega)
  have E := laws_eqCam_t l (by omega) 1048577 (by omega)
  have V := hv 1048577 (by omega)
  generalize hm : (1048577 : Nat) = m at *
  simp only [laws_FnExactValidCam.f, spec_ValidCam.f, if_neg hl, T, V.1, V.2, E, Option.bind_some, if_true]
  simp

end Go.Proofs.Ytobngbphmhggkaa.Pure
