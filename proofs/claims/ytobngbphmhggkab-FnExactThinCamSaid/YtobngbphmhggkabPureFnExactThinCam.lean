/- The pure statement of the law FnExactThinCam is proved: for every input that the law speaks of, the law's function answers true. No conditions beyond the statement's own. -/
import Derived.Test.YtobngbphmhggkabFFnExactThinCamx
namespace Go.Proofs.Ytobngbphmhggkab.Pure
open Go.RowKit Go.Proofs.Ytobngbphmhggkab.FFnExactThinCam Go.Proofs.YtobngbphmhggkabW.PrintWords Go.Proofs.YtobngbphmhggkabW.PrintLast
set_option linter.unusedVariables false

theorem b_wrap (x : Int) (h : -9223372036854775808 ≤ x) (h' : x ≤ 9223372036854775807) : wrap64 x = x := by
  unfold wrap64; omega

theorem b_rd (l : List Int) (i : Nat) (h : i < l.length) : rd l (i : Int) = l[i] := by
  unfold rd; rw [List.getD_eq_getElem?_getD, Int.toNat_natCast, List.getElem?_eq_getElem h]; rfl

theorem b_take (l : List Int) (i : Nat) (h : i < l.length) : l.take (i + 1) = l.take i ++ [l[i]] := by
  rw [List.take_succ_eq_append_getElem h]

theorem b_set (x : List Int) (i : Nat) (v : Int) (h : i < x.length) : (x.set i v).take (i + 1) = x.take i ++ [v] := by
  have h' : i < (x.set i v).length := by rw [List.length_set]; exact h
  rw [List.take_succ_eq_append_getElem h', List.getElem_set_self, List.take_set_of_le (Nat.le_refl i)]
theorem laws_toCam_l (l : List Int) (hl : l.length ≤ 140737488355328) (d : Nat) : ∀ (k : Nat) (x : List Int) (i : Nat), l.length - i = d → d < k → x.length = l.length → x.take i = l.take i → laws_toCam.l0 k l x (i : Int) = some l := by
  induction d with
  | zero =>
    intro k x i hd hk hx ht
    obtain ⟨k, rfl⟩ : ∃ m, k = m + 1 := ⟨k - 1, by omega⟩
    simp only [laws_toCam.l0]; rw [if_neg (by omega)]
    rw [List.take_of_length_le (by omega), List.take_of_length_le (by omega)] at ht
    rw [ht]
  | succ d ih =>
    intro k x i hd hk hx ht
    obtain ⟨k, rfl⟩ : ∃ m, k = m + 1 := ⟨k - 1, by omega⟩
    simp only [laws_toCam.l0]; rw [if_pos (by omega), if_pos (by omega), if_pos (by omega)]
    rw [b_wrap _ (by omega) (by omega), b_rd l i (by omega), Int.toNat_natCast]
    rw [show ((i : Int) + 1) = ((i + 1 : Nat) : Int) by omega]
    refine ih k _ (i + 1) (by omega) (by omega) (by rw [List.length_set]; exact hx) ?_
    rw [b_set x i _ (by omega), b_take l i (by omega), ht]

theorem laws_toCam_t (l : List Int) (hl : l.length ≤ 1048576) (k : Nat) (hk : l.length < k) : laws_toCam.f k l = some l := by
  unfold laws_toCam.f
  rw [if_pos (by omega), if_pos (by omega), Int.toNat_natCast]
  exact laws_toCam_l l (by omega) l.length k _ 0 (by omega) hk (by simp) rfl
theorem laws_eqCam_l (l : List Int) (hl : l.length ≤ 1048576) (d : Nat) : ∀ (k : Nat) (i : Nat), l.length - i = d → d < k → laws_eqCam.l0 k l l (i : Int) = some true := by
  induction d with
  | zero =>
    intro k i hd hk
    obtain ⟨k, rfl⟩ : ∃ m, k = m + 1 := ⟨k - 1, by omega⟩
    simp only [laws_eqCam.l0]; rw [if_neg (by omega)]
  | succ d ih =>
    intro k i hd hk
    obtain ⟨k, rfl⟩ : ∃ m, k = m + 1 := ⟨k - 1, by omega⟩
    simp only [laws_eqCam.l0]; rw [if_pos (by omega), if_pos (by omega), if_pos (by omega), if_pos trivial]
    rw [b_wrap _ (by omega) (by omega), show ((i : Int) + 1) = ((i + 1 : Nat) : Int) by omega]
    exact ih k (i + 1) (by omega) (by omega)

theorem laws_eqCam_t (l : List Int) (hl : l.length ≤ 1048576) (k : Nat) (hk : l.length < k) : laws_eqCam.f k l l = some true := by
  unfold laws_eqCam.f
  rw [if_pos rfl]
  exact laws_eqCam_l l hl l.length k 0 (by omega) hk
theorem b_wf16 {l : List Int} (hw : ∀ x ∈ l, (Lit.int .i16 x).wf = true) : ∀ j : Nat, -32768 ≤ l.getD j 0 ∧ l.getD j 0 ≤ 32767 := by
  intro j
  rw [List.getD_eq_getElem?_getD]
  by_cases hj : j < l.length
  · rw [List.getElem?_eq_getElem hj]
    have := hw _ (List.getElem_mem hj)
    simp [Lit.wf, IntKind.min, IntKind.max, IntKind.bits, IntKind.signed] at this
    simpa using this
  · rw [List.getElem?_eq_none (by omega)]; simp

theorem b_rdN (x : List Int) (j : Nat) : rd x (j : Int) = x.getD j 0 := by unfold rd; rw [Int.toNat_natCast]
theorem impl_inRange_t (a b c : Int) : impl_inRange.f a b c = some (decide (b ≤ a ∧ a ≤ c)) := by
  unfold impl_inRange.f
  by_cases h : b ≤ a
  · rw [if_pos h]; simp [h]
  · rw [if_neg h]; simp [h]
theorem spec_l00In_t (a b c : Int) : spec_l00In.f a b c = some (decide (b ≤ a ∧ a ≤ c)) := by
  unfold spec_l00In.f
  by_cases h : b ≤ a
  · rw [if_pos h]; simp [h]
  · rw [if_neg h]; simp [h]
/-- What a valid cam is. -/
def Cam (l : List Int) : Prop := (8 ≤ l.length ∧ l.length ≤ 360) ∧ ∀ j, j < l.length → 0 ≤ l.getD j 0 ∧ l.getD j 0 ≤ 10000

theorem ok_l (l : List Int) (hl : l.length ≤ 360) (hb : ∀ j : Nat, -32768 ≤ l.getD j 0 ∧ l.getD j 0 ≤ 32767) (d : Nat) : ∀ (k i : Nat), l.length - i = d → d < k →
    ∃ r v, spec_l01Ok.l0 k l (i : Int) = some r ∧ impl_Cam_int16_c95_105.l0 k l (l.length : Int) (i : Int) = some v ∧ (r = !(decide (v ≥ 0))) ∧ (r = true ↔ ∀ j, i ≤ j → j < l.length → 0 ≤ l.getD j 0 ∧ l.getD j 0 ≤ 10000) := by
  induction d with
  | zero =>
    intro k i hd hk
    obtain ⟨k, rfl⟩ : ∃ m, k = m + 1 := ⟨k - 1, by omega⟩
    refine ⟨true, -1, ?_, ?_, by simp, ?_⟩
    · simp only [spec_l01Ok.l0]; rw [if_neg (by omega)]
    · simp only [impl_Cam_int16_c95_105.l0]; rw [if_neg (by omega)]
    · simp only [true_iff]; intro j h1 h2; omega
  | succ d ih =>
    intro k i hd hk
    obtain ⟨k, rfl⟩ : ∃ m, k = m + 1 := ⟨k - 1, by omega⟩
    have hbi := hb i
    have p1 : (i : Int) < (l.length : Int) := by omega
    have p2 : 0 ≤ (i : Int) := by omega
    simp only [spec_l01Ok.l0, impl_Cam_int16_c95_105.l0, if_pos p1, if_pos p2, b_rdN]
    unfold spec_l01Lift.f impl_ValidCam_1.f impl_isLift.f
    rw [b_wrap (l.getD i 0) (by omega) (by omega)]
    simp only [spec_l00In_t, impl_inRange_t, Option.bind_some]
    by_cases c : 0 ≤ l.getD i 0 ∧ l.getD i 0 ≤ 10000
    · obtain ⟨r, v, h1, h2, h3, h4⟩ := ih k (i + 1) (by omega) (by omega)
      refine ⟨r, v, ?_, ?_, h3, ?_⟩
      · rw [if_pos (by simpa using c), b_wrap _ (by omega) (by omega), show ((i : Int) + 1) = ((i + 1 : Nat) : Int) by omega]; exact h1
      · rw [if_neg (by simpa using c), b_wrap _ (by omega) (by omega), show ((i : Int) + 1) = ((i + 1 : Nat) : Int) by omega]; exact h2
      · rw [h4]
        refine ⟨fun h j q1 q2 => ?_, fun h j q1 q2 => h j (by omega) q2⟩
        by_cases e : j = i
        · subst e; exact c
        · exact h j (by omega) q2
    · refine ⟨false, i, ?_, ?_, by simp, ?_⟩
      · rw [if_neg (by rw [decide_eq_false c]; simp)]
      · rw [if_pos (by rw [decide_eq_false c]; rfl)]
      · refine ⟨(fun h => by cases h), fun h => absurd (h i (Nat.le_refl _) (by omega)) c⟩

theorem validcam_t (l : List Int) (hb : ∀ j : Nat, -32768 ≤ l.getD j 0 ∧ l.getD j 0 ≤ 32767) : ∃ r : Bool, (r = true ↔ Cam l) ∧ ∀ k, 400 ≤ k → spec_l01Ok.f k l = some r ∧ impl_ValidCam.f k l = some r := by
  by_cases h : 8 ≤ (l.length : Int) ∧ (l.length : Int) ≤ 360
  · obtain ⟨r, v, h1, h2, h3, h4⟩ := ok_l l (by omega) hb l.length 400 0 (by omega) (by omega)
    refine ⟨r, ?_, fun k hk => ?_⟩
    · rw [h4]; unfold Cam
      exact ⟨fun q => ⟨by omega, fun j hj => q j (by omega) hj⟩, fun q j _ hj => q.2 j hj⟩
    · have h1' := at_rounds (fun k => spec_l01Ok.mono_l k l ((0 : Nat) : Int)) hk h1
      have h2' := at_rounds (fun k => impl_Cam_int16_c95_105.mono_l k l (l.length : Int) ((0 : Nat) : Int)) hk h2
      unfold spec_l01Ok.f spec_l01Steps.f impl_ValidCam.f impl_Cam_steps.f impl_isSteps.f impl_Cam_int16_c95_94.f impl_Cam_int16_c95_105.f
      simp only [spec_l00In_t, impl_inRange_t, Option.bind_some]
      rw [if_pos (by simpa using h), if_pos (by simpa using h)]
      rw [show ((0 : Int)) = ((0 : Nat) : Int) from rfl, h1', h2']
      simp [h3]
  · refine ⟨false, ?_, fun k hk => ?_⟩
    · constructor
      · intro q; cases q
      · intro q; unfold Cam at q; omega
    · unfold spec_l01Ok.f spec_l01Steps.f impl_ValidCam.f impl_Cam_steps.f impl_isSteps.f
      simp only [spec_l00In_t, impl_inRange_t, Option.bind_some]
      rw [if_neg (by simpa using h), if_neg (by simpa using h)]
      exact ⟨rfl, rfl⟩
theorem floor_t (s n : Int) (hn : 0 < n) : (if Int.tmod s n < 0 then Int.tdiv s n - 1 else Int.tdiv s n) = s / n := by
  have e := Int.tmod_add_mul_tdiv s n
  have l1 := Int.tmod_lt_of_pos s hn
  have l2 : -n < Int.tmod s n := by
    by_cases h : 0 ≤ s
    · have := Int.tmod_nonneg n h; omega
    · have := Int.tmod_lt_of_pos (-s) hn
      rw [Int.neg_tmod] at this; omega
  have u := fun q r => (Int.ediv_emod_unique (a := s) (b := n) (r := r) (q := q) hn)
  by_cases h : Int.tmod s n < 0
  · rw [if_pos h]
    have m : n * (Int.tdiv s n - 1) = n * Int.tdiv s n - n := by rw [Int.mul_sub, Int.mul_one]
    exact ((u (Int.tdiv s n - 1) (Int.tmod s n + n)).mpr ⟨by omega, by omega, by omega⟩).1.symm
  · rw [if_neg h]
    exact ((u (Int.tdiv s n) (Int.tmod s n)).mpr ⟨by omega, by omega, by omega⟩).1.symm

theorem tdiv_bd (s n : Int) (hn : 0 < n) : (0 ≤ s → 0 ≤ Int.tdiv s n ∧ Int.tdiv s n ≤ s) ∧ (s ≤ 0 → s ≤ Int.tdiv s n ∧ Int.tdiv s n ≤ 0) := by
  constructor
  · intro h
    exact ⟨Int.tdiv_nonneg h (by omega), Int.tdiv_le_self n h⟩
  · intro h
    have a := Int.tdiv_nonneg (show 0 ≤ -s by omega) (show 0 ≤ n by omega)
    have b := Int.tdiv_le_self n (show 0 ≤ -s by omega)
    rw [Int.neg_tdiv] at a b; omega

theorem floorDiv_t (s n : Int) (hn : 0 < n) (hs : -1000000000000000000 ≤ s ∧ s ≤ 1000000000000000000) : impl_floorDiv.f s n = some (s / n) := by
  have t := tdiv_bd s n hn
  rw [← floor_t s n hn]
  unfold impl_floorDiv.f
  rw [if_neg (by omega), b_wrap (Int.tdiv s n) (by omega) (by omega), b_wrap (Int.tdiv s n - 1) (by omega) (by omega)]
  split <;> rfl
/-- The lift at a step, whichever. -/
def A (l : List Int) (s : Int) : Int := l.getD (s % (l.length : Int)).toNat 0

theorem A_bd {l : List Int} (hc : Cam l) (s : Int) : 0 ≤ A l s ∧ A l s ≤ 10000 := by
  obtain ⟨⟨h1, h2⟩, h3⟩ := hc
  have q1 := Int.emod_nonneg s (show (l.length : Int) ≠ 0 by omega)
  have q2 := Int.emod_lt_of_pos s (show 0 < (l.length : Int) by omega)
  exact h3 _ (by omega)

theorem at_i {l : List Int} (hc : Cam l) (s : Int) (hs : -1000000000 ≤ s ∧ s ≤ 1000000000) : impl_Cam_at.f l s = some (A l s) := by
  have hbd := A_bd hc s
  obtain ⟨⟨h1, h2⟩, h3⟩ := hc
  have hn : 0 < (l.length : Int) := by omega
  have q1 := Int.emod_nonneg s (show (l.length : Int) ≠ 0 by omega)
  have q2 := Int.emod_lt_of_pos s hn
  have rdA : rd l (s % (l.length : Int)) = A l s := rfl
  have hm : s - (l.length : Int) * (s / (l.length : Int)) = s % (l.length : Int) := (Int.emod_def s (l.length : Int)).symm
  have hm2 : (l.length : Int) * (s / (l.length : Int)) = s - s % (l.length : Int) := by omega
  unfold impl_Cam_at.f impl_Cam_steps.f impl_mod.f
  simp only [Option.bind_some]
  rw [floorDiv_t s _ hn (by omega)]; simp only [Option.bind_some]
  rw [hm2, b_wrap (s - s % (l.length : Int)) (by omega) (by omega), show s - (s - s % (l.length : Int)) = s % (l.length : Int) by omega, b_wrap (s % (l.length : Int)) (by omega) (by omega), if_pos q1, if_pos q2, rdA, b_wrap _ (by omega) (by omega)]
theorem laws_markCam_l (d : Nat) : ∀ (k : Nat) (x : List Int) (a : Int) (i : Nat), x.length - i = d → x.length ≤ 1048576 → d < k → 0 ≤ a → a ≤ 4611686018427387904 - d →
    ∃ y, laws_markCam.l0 k x a (i : Int) = some (a + d, y) ∧ y.length = x.length ∧ (∀ j, j < i → y.getD j 0 = x.getD j 0) ∧ (∀ j, i ≤ j → j < x.length → y.getD j 0 = IntKind.i16.wrap (a + ((j - i : Nat) : Int))) := by
  induction d with
  | zero =>
    intro k x a i hd hx hk ha hb
    obtain ⟨k, rfl⟩ : ∃ m, k = m + 1 := ⟨k - 1, by omega⟩
    refine ⟨x, ?_, rfl, fun _ _ => rfl, fun j h1 h2 => by omega⟩
    simp only [laws_markCam.l0]; rw [if_neg (by omega)]; simp
  | succ d ih =>
    intro k x a i hd hx hk ha hb
    obtain ⟨k, rfl⟩ : ∃ m, k = m + 1 := ⟨k - 1, by omega⟩
    simp only [laws_markCam.l0]; rw [if_pos (by omega), if_pos (by omega), Int.toNat_natCast]
    rw [b_wrap _ (by omega) (by omega), b_wrap _ (by omega) (by omega), show ((i : Int) + 1) = ((i + 1 : Nat) : Int) by omega]
    obtain ⟨y, hy, hl, h1, h2⟩ := ih k (x.set i (IntKind.i16.wrap a)) (a + 1) (i + 1) (by rw [List.length_set]; omega) (by rw [List.length_set]; exact hx) (by omega) (by omega) (by omega)
    refine ⟨y, ?_, by rw [hl, List.length_set], ?_, ?_⟩
    · rw [hy]; congr 2; omega
    · intro j hj
      rw [h1 j (by omega)]
      simp only [List.getD_eq_getElem?_getD]; rw [List.getElem?_set_ne (by omega)]
    · intro j hj hj'
      by_cases e : j = i
      · subst e
        rw [h1 j (by omega)]
        simp only [List.getD_eq_getElem?_getD]; rw [List.getElem?_set_self (by omega)]; simp
      · rw [h2 j (by omega) (by rw [List.length_set]; exact hj')]
        rw [show a + 1 + ((j - (i + 1) : Nat) : Int) = a + ((j - i : Nat) : Int) by omega]

theorem laws_heldCam_l (x : List Int) (hx : x.length ≤ 1048576) (d : Nat) : ∀ (k : Nat) (a : Int) (i : Nat), x.length - i = d → d < k → 0 ≤ a → a ≤ 4611686018427387904 - d → (∀ j, i ≤ j → j < x.length → x.getD j 0 = IntKind.i16.wrap (a + ((j - i : Nat) : Int))) →
    laws_heldCam.l0 k x a (i : Int) = some (a + d) := by
  induction d with
  | zero =>
    intro k a i hd hk ha hb h
    obtain ⟨k, rfl⟩ : ∃ m, k = m + 1 := ⟨k - 1, by omega⟩
    simp only [laws_heldCam.l0]; rw [if_neg (by omega)]; simp
  | succ d ih =>
    intro k a i hd hk ha hb h
    obtain ⟨k, rfl⟩ : ∃ m, k = m + 1 := ⟨k - 1, by omega⟩
    have h0 : rd x (i : Int) = IntKind.i16.wrap a := by
      have := h i (Nat.le_refl _) (by omega)
      unfold rd; rw [Int.toNat_natCast, this]; simp
    simp only [laws_heldCam.l0]; rw [if_pos (by omega), if_pos (by omega), if_pos h0]
    rw [b_wrap _ (by omega) (by omega), b_wrap _ (by omega) (by omega), show ((i : Int) + 1) = ((i + 1 : Nat) : Int) by omega]
    rw [ih k (a + 1) (i + 1) (by omega) (by omega) (by omega) (by omega) ?_]
    · congr 1; omega
    · intro j h1 h2
      rw [h j (by omega) h2]; rw [show a + 1 + ((j - (i + 1) : Nat) : Int) = a + ((j - i : Nat) : Int) by omega]

theorem laws_markCam_t (x : List Int) (hx : x.length ≤ 1048576) : ∃ y, (∀ k, x.length < k → laws_markCam.f k x 1 = some (1 + (x.length : Int), y)) ∧ (∀ k, x.length < k → laws_heldCam.f k y 1 = some (1 + (x.length : Int))) := by
  obtain ⟨y, hy, hl, _, h2⟩ := laws_markCam_l x.length (x.length + 1) x 1 0 (by omega) hx (by omega) (by omega) (by omega)
  refine ⟨y, fun k hk => at_rounds (laws_markCam.mono x 1) (show x.length + 1 ≤ k by omega) hy, fun k hk => ?_⟩
  unfold laws_heldCam.f
  rw [← hl]
  exact laws_heldCam_l y (by omega) y.length k 1 0 (by omega) (by omega) (by omega) (by omega) (fun j h0 hj => h2 j h0 (by omega))
theorem b_w16 (x : Int) (h : -32768 ≤ x) (h' : x ≤ 32767) : IntKind.i16.wrap x = x := by
  simp only [IntKind.wrap, IntKind.bits, IntKind.signed]
  have e := Int.bmod_def x (2 ^ 16)
  first | omega | (simp at *; omega)

theorem clo_t {l : List Int} (hc : Cam l) (a : Nat) (ha : 1 ≤ a ∧ a ≤ 45) (m : Nat) (hm : l.length = m * a) (j : Nat) (hj : j < m) : impl_ThinCam_1.f (j : Int) [l] [(a : Int)] = some (l.getD (j * a) 0) ∧ j * a < l.length := by
  have hl : l.length ≤ 360 := hc.1.2
  have hlt : j * a < m * a := Nat.mul_lt_mul_of_pos_right hj (by omega)
  have hlt2 : j * a < l.length := by omega
  refine ⟨?_, hlt2⟩
  have e : (j : Int) * (a : Int) = ((j * a : Nat) : Int) := by simp
  have hA : A l ((j * a : Nat) : Int) = l.getD (j * a) 0 := by unfold A; rw [Int.emod_eq_of_lt (by omega) (by omega), Int.toNat_natCast]
  have r0 : rd_L1 [l] 0 = l := rfl
  have r1 : rd [(a : Int)] 0 = a := rfl
  have q1 : (0 : Int) < (([l] : List (List Int)).length : Int) := by simp
  have q2 : (0 : Int) < (([(a : Int)] : List Int).length : Int) := by simp
  unfold impl_ThinCam_1.f
  rw [if_pos q1, if_pos q2, r0, r1, e, b_wrap _ (by omega) (by omega), at_i hc _ (by omega), hA]; rfl

theorem thin_l {l : List Int} (hc : Cam l) (a : Nat) (ha : 1 ≤ a ∧ a ≤ 45) (m : Nat) (hm : l.length = m * a) (d : Nat) : ∀ (k i : Nat) (x : List Int), m - i = d → i ≤ m → d < k → x.length = i →
    ∃ q : List Int, q.length ≤ 360 ∧ spec_ThinCam.l0 k l a (l.length : Int) x ((i * a : Nat) : Int) = some (q, 0) ∧ impl_camOf_c92.l0 k x (m : Int) (i : Int) [l] [(a : Int)] = some (q, 0) := by
  have hl : l.length ≤ 360 := hc.1.2
  have hm2 : m ≤ m * a := Nat.le_mul_of_pos_right m (by omega)
  induction d with
  | zero =>
    intro k i x hd hi hk hx
    obtain ⟨k, rfl⟩ : ∃ m, k = m + 1 := ⟨k - 1, by omega⟩
    have e : i = m := by omega
    refine ⟨x, by omega, ?_, ?_⟩
    · simp only [spec_ThinCam.l0]; rw [if_neg (by rw [hm, e]; omega)]
    · simp only [impl_camOf_c92.l0]; rw [if_neg (by omega)]
  | succ d ih =>
    intro k i x hd hi hk hx
    obtain ⟨k, rfl⟩ : ∃ m, k = m + 1 := ⟨k - 1, by omega⟩
    obtain ⟨c1, c2⟩ := clo_t hc a ha m hm i (by omega)
    have b := hc.2 _ c2
    obtain ⟨q, q1, q2, q3⟩ := ih k (i + 1) (x ++ [l.getD (i * a) 0]) (by omega) (by omega) (by omega) (by simp [hx])
    have e : ((i * a : Nat) : Int) + (a : Int) = (((i + 1) * a : Nat) : Int) := by rw [Nat.add_mul, Nat.one_mul]; simp
    have e2 : (i + 1) * a = i * a + a := by rw [Nat.add_mul, Nat.one_mul]
    refine ⟨q, q1, ?_, ?_⟩
    · simp only [spec_ThinCam.l0]
      rw [if_pos (by omega), if_pos (by omega), if_pos (by omega), if_pos (by omega), b_rdN, e, b_wrap _ (by omega) (by omega)]
      exact q2
    · simp only [impl_camOf_c92.l0]
      rw [if_pos (by omega), c1]; simp only [Option.bind_some, impl_isLift.f, impl_inRange_t, decide_eq_true b, if_true]
      rw [if_pos (by omega), b_w16 _ (by omega) (by omega), b_wrap _ (by omega) (by omega), show ((i : Int) + 1) = ((i + 1 : Nat) : Int) by omega]
      exact q3

theorem FnExactThinCam : laws_FnExactThinCam.Pure := by
  intro l a _ _ hw _
  by_cases hl : (l.length : Int) > 1048576
  · exact ⟨0, by unfold laws_FnExactThinCam.f; rw [if_pos hl]⟩
  have hb := b_wf16 hw
  have hs : ∃ (r : List Int) (c : Int), r.length ≤ 1048576 ∧ ∀ k, 1000 ≤ k → spec_ThinCam.f k l a = some (r, c) ∧ impl_ThinCam.f k l a = some (r, c) := by
    obtain ⟨r, hr, hv⟩ := validcam_t l hb
    cases r with
    | false =>
      refine ⟨[], 1, by simp, fun k hk => ?_⟩
      unfold spec_ThinCam.f impl_ThinCam.f
      rw [(hv k (by omega)).1, (hv k (by omega)).2]; simp
    | true =>
      have hc := hr.mp rfl
      have hc1 := hc.1
      by_cases ha : 1 ≤ a ∧ a ≤ 45
      · have ha0 : ¬ a = 0 := by omega
        by_cases h4 : (l.length : Int) % a = 0
        · obtain ⟨n, rfl⟩ := Int.eq_ofNat_of_zero_le (show 0 ≤ a by omega)
          have hmn : l.length = l.length / n * n := by
            have h5 : l.length % n = 0 := by omega
            have := Nat.div_add_mod l.length n
            rw [h5, Nat.mul_comm] at this; omega
          have hq : ((l.length : Int) / (n : Int)) = ((l.length / n : Nat) : Int) := rfl
          have hb1 : l.length / n ≤ l.length := Nat.div_le_self _ _
          obtain ⟨m, hM⟩ : ∃ m, l.length / n = m := ⟨_, rfl⟩
          rw [hM] at hmn hq hb1
          clear hM
          by_cases h5 : 8 ≤ (m : Int) ∧ (m : Int) ≤ 360
          · obtain ⟨q, q1, q2, q3⟩ := thin_l hc n (by omega) m hmn m 500 0 [] (by omega) (by omega) (by omega) rfl
            refine ⟨q, 0, by omega, fun k hk => ?_⟩
            have q2' := at_rounds (fun k => spec_ThinCam.mono_l k l n (l.length : Int) [] ((0 * n : Nat) : Int)) (show 500 ≤ k by omega) q2
            have q3' := at_rounds (fun k => impl_camOf_c92.mono_l k [] (m : Int) ((0 : Nat) : Int) [l] [(n : Int)]) (show 500 ≤ k by omega) q3
            rw [Nat.zero_mul] at q2'
            unfold spec_ThinCam.f impl_ThinCam.f impl_camOf_c92.f spec_l01Times.f spec_l01Steps.f impl_isSteps.f
            rw [(hv k (by omega)).1, (hv k (by omega)).2]
            rw [hq, b_wrap _ (by omega) (by omega)]
            simp only [Option.bind_some, if_true, spec_l00In_t, impl_inRange_t, decide_eq_true ha, decide_eq_true h5, if_neg ha0, if_pos h4]
            exact ⟨q2', q3'⟩
          · refine ⟨[], 3, by simp, fun k hk => ?_⟩
            unfold spec_ThinCam.f impl_ThinCam.f spec_l01Times.f spec_l01Steps.f impl_isSteps.f
            rw [(hv k (by omega)).1, (hv k (by omega)).2]
            rw [hq, b_wrap _ (by omega) (by omega)]
            simp only [Option.bind_some, if_true, spec_l00In_t, impl_inRange_t, decide_eq_true ha, decide_eq_false h5, if_neg ha0, if_pos h4, Bool.false_eq_true, if_false]
            exact ⟨trivial, trivial⟩
        · refine ⟨[], 4, by simp, fun k hk => ?_⟩
          unfold spec_ThinCam.f impl_ThinCam.f spec_l01Times.f
          rw [(hv k (by omega)).1, (hv k (by omega)).2]
          simp only [Option.bind_some, if_true, spec_l00In_t, impl_inRange_t, decide_eq_true ha, if_neg ha0, if_neg h4]
          exact ⟨trivial, trivial⟩
      · refine ⟨[], 2, by simp, fun k hk => ?_⟩
        unfold spec_ThinCam.f impl_ThinCam.f spec_l01Times.f
        rw [(hv k (by omega)).1, (hv k (by omega)).2]
        simp only [Option.bind_some, if_true, spec_l00In_t, impl_inRange_t, decide_eq_false ha, Bool.false_eq_true, if_false]
        exact ⟨trivial, trivial⟩
  obtain ⟨r, c, hr, hq⟩ := hs
  obtain ⟨y, hM, hH⟩ := laws_markCam_t r hr
  obtain ⟨z, hZ, _⟩ := laws_markCam_t l (by omega)
  refine ⟨1048577 + 3, ?_⟩
  have n1 : ¬ (1 + (r.length : Int) < 0) := by omega
  have n2 : ¬ (1 + (l.length : Int) < 0) := by omega
  have T3 := laws_toCam_t l (by omega) (1048577 + 3) (by omega)
  have T2 := laws_toCam_t l (by omega) (1048577 + 2) (by omega)
  have T1 := laws_toCam_t l (by omega) (1048577 + 1) (by omega)
  have S3 := hq (1048577 + 3) (by omega)
  have S1 := hq (1048577 + 1) (by omega)
  have E3 := laws_eqCam_t r (by omega) (1048577 + 3) (by omega)
  have E2 := laws_eqCam_t r (by omega) (1048577 + 2) (by omega)
  have E1 := laws_eqCam_t r (by omega) (1048577 + 1) (by omega)
  have C2 := laws_eqCam_t l (by omega) (1048577 + 2) (by omega)
  have Z2 := hZ (1048577 + 2) (by omega)
  have M1 := hM (1048577 + 1) (by omega)
  have H1 := hH (1048577 + 1) (by omega)
  have H0 := hH 1048577 (by omega)
  generalize hm : (1048577 : Nat) = m at *
  simp only [laws_FnExactThinCam.f, if_neg hl, T3, S3.1, S3.2, E3, Option.bind_some, if_true, bne_self_eq_false, laws_FnExactThinCam.j0, Bool.false_eq_true, if_false, T2, C2, Z2, if_neg n2, E2, laws_FnExactThinCam.j1, M1, H1, if_neg n1, T1, S1.2, E1, laws_FnExactThinCam.j2, H0]

end Go.Proofs.Ytobngbphmhggkab.Pure
