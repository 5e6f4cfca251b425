/- The pure statement of the law FnExactCutsText is proved: for every input that the law speaks of, the law's function answers true. No conditions beyond the statement's own. -/
import Derived.Test.YtcfjdpegllnhfaaDoorFFnExactCutsTextx
import Derived.Test.YtcfjdpegllnhfaaDoorShapeFnExactCutsText
import Derived.OpenShut
import Derived.Lib.ItoaMem
namespace Go.Proofs.YtcfjdpegllnhfaaDoor.Pure
open Go.RowKit Go.Proofs.YtcfjdpegllnhfaaDoor.FFnExactCutsText Go.Proofs.YtcfjdpegllnhfaaDoorW.PrintWords Go.Proofs.YtcfjdpegllnhfaaDoorW.PrintLast
set_option linter.unusedVariables false

theorem b_wrap (x : Int) (h : -9223372036854775808 ≤ x) (h' : x ≤ 9223372036854775807) : wrap64 x = x := by
  unfold wrap64; omega

theorem b_rd (l : List Int) (i : Nat) (h : i < l.length) : rd l (i : Int) = l[i] := by
  unfold rd; rw [List.getD_eq_getElem?_getD, Int.toNat_natCast, List.getElem?_eq_getElem h]; rfl

theorem b_take (l : List Int) (i : Nat) (h : i < l.length) : l.take (i + 1) = l.take i ++ [l[i]] := by
  rw [List.take_succ_eq_append_getElem h]

theorem b_set (x : List Int) (i : Nat) (v : Int) (h : i < x.length) : (x.set i v).take (i + 1) = x.take i ++ [v] := by
  have h' : i < (x.set i v).length := by rw [List.length_set]; exact h
  rw [List.take_succ_eq_append_getElem h', List.getElem_set_self, List.take_set_of_le (Nat.le_refl i)]
set_option linter.unusedSectionVars false
theorem impl_inRange_t (a b c : Int) : impl_inRange.f a b c = some (decide (b ≤ a ∧ a ≤ c)) := by
  unfold impl_inRange.f
  by_cases h : b ≤ a
  · rw [if_pos h]; simp [h]
  · rw [if_neg h]; simp [h]
theorem spec_l00In_t (a b c : Int) : spec_l00In.f a b c = some (decide (b ≤ a ∧ a ≤ c)) := by
  unfold spec_l00In.f
  by_cases h : b ≤ a
  · rw [if_pos h]; simp [h]
  · rw [if_neg h]; simp [h]
theorem c_wrap (x : Int) (h : -9223372036854775808 ≤ x) (h' : x ≤ 9223372036854775807) : wrap64 x = x := by
  unfold wrap64; omega
/-- The fields of all cuts fit their kinds. -/
def Fit (l : List S62) : Prop := ∀ j : Nat, (-32768 ≤ (l.getD j z62).f0 ∧ (l.getD j z62).f0 ≤ 32767) ∧ (-32768 ≤ (l.getD j z62).f1 ∧ (l.getD j z62).f1 ≤ 32767) ∧ (-128 ≤ (l.getD j z62).f2 ∧ (l.getD j z62).f2 ≤ 127)
theorem rd62 (l : List S62) (i : Nat) : rd_T62 l (i : Int) = l.getD i z62 := by unfold rd_T62; rw [Int.toNat_natCast]
/-- A cut that is plain, with so many cutters. -/
def Pl (c : Int) (x : S62) : Prop := (0 ≤ x.f0 ∧ x.f0 ≤ 359) ∧ (0 ≤ x.f1 ∧ x.f1 ≤ 10000) ∧ (0 ≤ x.f2 ∧ x.f2 ≤ c - 1)

theorem plain_l (l : List S62) (hl : l.length ≤ 1048576) (hF : Fit l) (c : Int) (hc : 0 ≤ c ∧ c ≤ 1048576) (d : Nat) : ∀ (k i : Nat), l.length - i = d → d < k →
    ∃ r v, spec_l06Plain.l0 k l c (i : Int) = some r ∧ impl_Cut_c64_76.l0 k l (l.length : Int) (i : Int) [c] = some v ∧ (r = !(decide (v ≥ 0))) ∧ (r = true ↔ ∀ j, i ≤ j → j < l.length → Pl c (l.getD j z62)) := by
  induction d with
  | zero =>
    intro k i hd hk
    obtain ⟨k, rfl⟩ : ∃ m, k = m + 1 := ⟨k - 1, by omega⟩
    refine ⟨true, -1, ?_, ?_, by simp, ?_⟩
    · simp only [spec_l06Plain.l0]; rw [if_neg (by omega)]
    · simp only [impl_Cut_c64_76.l0]; rw [if_neg (by omega)]
    · simp only [true_iff]; intro j h1 h2; omega
  | succ d ih =>
    intro k i hd hk
    obtain ⟨k, rfl⟩ : ∃ m, k = m + 1 := ⟨k - 1, by omega⟩
    obtain ⟨b0, b1, b2⟩ := hF i
    have p1 : (i : Int) < (l.length : Int) := by omega
    have p2 : 0 ≤ (i : Int) := by omega
    have w : wrap64 ((i : Int) + 1) = ((i + 1 : Nat) : Int) := by rw [c_wrap _ (by omega) (by omega)]; omega
    simp only [spec_l06Plain.l0, impl_Cut_c64_76.l0, if_pos p1, if_pos p2, rd62, w]
    unfold spec_l01Lift.f impl_areCuts_1.f impl_isLift.f impl_isPlace.f
    rw [c_wrap _ (by omega) (by omega), c_wrap _ (by omega) (by omega), c_wrap _ (by omega) (by omega), c_wrap _ (by omega) (by omega)]
    rw [show wrap64 (rd [c] 0 - 1) = c - 1 from c_wrap _ (by unfold rd; simp; omega) (by unfold rd; simp; omega)]
    simp only [spec_l00In_t, impl_inRange_t, Option.bind_some]
    have stop : ∀ q : ¬ Pl c (l.getD i z62), ∃ r v, some false = some r ∧ some ((i : Nat) : Int) = some v ∧ (r = !(decide (v ≥ 0))) ∧ (r = true ↔ ∀ j, i ≤ j → j < l.length → Pl c (l.getD j z62)) := fun q =>
      ⟨false, i, rfl, rfl, by simp, ⟨(fun h => by cases h), fun h => absurd (h i (Nat.le_refl _) (by omega)) q⟩⟩
    by_cases c0 : 0 ≤ (l.getD i z62).f0 ∧ (l.getD i z62).f0 ≤ 359
    · by_cases c1 : 0 ≤ (l.getD i z62).f1 ∧ (l.getD i z62).f1 ≤ 10000
      · by_cases c2 : 0 ≤ (l.getD i z62).f2 ∧ (l.getD i z62).f2 ≤ c - 1
        · obtain ⟨r, v, h1, h2, h3, h4⟩ := ih k (i + 1) (by omega) (by omega)
          refine ⟨r, v, ?_, ?_, h3, ?_⟩
          · simp only [decide_eq_true c0, decide_eq_true c1, decide_eq_true c2, if_true]; exact h1
          · simp only [decide_eq_true c0, decide_eq_true c1, decide_eq_true c2, if_true, List.length_singleton, show (0 : Int) < ((1 : Nat) : Int) by omega, Option.bind_some, Bool.not_true, Bool.false_eq_true, if_false]; exact h2
          · rw [h4]
            refine ⟨fun h j q1 q2 => ?_, fun h j q1 q2 => h j (by omega) q2⟩
            by_cases e : j = i
            · subst e; exact ⟨c0, c1, c2⟩
            · exact h j (by omega) q2
        · have := stop (fun q => c2 q.2.2)
          simpa only [decide_eq_true c0, decide_eq_true c1, decide_eq_false c2, if_true, Bool.false_eq_true, if_false, List.length_singleton, show (0 : Int) < ((1 : Nat) : Int) by omega, Option.bind_some, Bool.not_false] using this
      · have := stop (fun q => c1 q.2.1)
        simpa only [decide_eq_true c0, decide_eq_false c1, if_true, Bool.false_eq_true, if_false, Option.bind_some] using this
    · have := stop (fun q => c0 q.1)
      simpa only [decide_eq_false c0, if_true, Bool.false_eq_true, if_false, Option.bind_some] using this

theorem plain_t (l : List S62) (hl : l.length ≤ 1048576) (hF : Fit l) (c : Int) (hc : 0 ≤ c ∧ c ≤ 1048576) : ∃ b : Bool, (b = true ↔ l.length ≤ 400 ∧ ∀ j, j < l.length → Pl c (l.getD j z62)) ∧ ∀ k, l.length < k → spec_l06Plain.f k l c = some b ∧ impl_areCuts.f k l c = some b := by
  by_cases h : l.length ≤ 400
  · obtain ⟨r, v, h1, h2, h3, h4⟩ := plain_l l hl hF c hc l.length (l.length + 1) 0 (by omega) (by omega)
    refine ⟨r, ?_, fun k hk => ?_⟩
    · rw [h4]; exact ⟨fun q => ⟨h, fun j hj => q j (by omega) hj⟩, fun q j _ hj => q.2 j hj⟩
    · have h1' := at_rounds (fun k => (spec_l06Plain.mono_l k) l c ((0 : Nat) : Int)) (show l.length + 1 ≤ k by omega) h1
      have h2' := at_rounds (fun k => (impl_Cut_c64_76.mono_l k) l (l.length : Int) ((0 : Nat) : Int) [c]) (show l.length + 1 ≤ k by omega) h2
      constructor
      · unfold spec_l06Plain.f; rw [if_neg (by omega)]; exact h1'
      · unfold impl_areCuts.f impl_Cut_c64_63.f impl_Cut_c64_76.f
        rw [if_pos (by omega), show (0 : Int) = ((0 : Nat) : Int) from rfl, h2']
        simp only [Option.bind_some]; rw [h3]; simp
  · refine ⟨false, ⟨(fun q => by cases q), fun q => absurd q.1 h⟩, fun k hk => ⟨?_, ?_⟩⟩
    · unfold spec_l06Plain.f; rw [if_pos (by omega)]
    · unfold impl_areCuts.f; rw [if_neg (by omega)]
/-- A cut as the program has it. -/
def cv (x : S64) : S62 := ⟨x.f0, x.f1, x.f2⟩
theorem fit_cv (l : List S64) (h : F30 l) : Fit (l.map cv) := by
  intro j
  by_cases hj : j < l.length
  · have e : (l.map cv).getD j z62 = cv l[j] := by rw [List.getD_eq_getElem?_getD, List.getElem?_map, List.getElem?_eq_getElem hj]; rfl
    have hx := h.2 _ (List.getElem_mem hj)
    rw [e]; unfold cv
    obtain ⟨h0, h1, h2⟩ := hx
    exact ⟨Go.bounds_i16 h0, Go.bounds_i16 h1, Go.bounds_i8 h2⟩
  · have e : (l.map cv).getD j z62 = z62 := by rw [List.getD_eq_getElem?_getD, List.getElem?_eq_none (by simpa using hj)]; rfl
    rw [e]; unfold z62; simp
theorem toCutS_l (l : List S64) (hl : l.length ≤ 1048576) (d : Nat) : ∀ (k : Nat) (x : List S62) (i : Nat), l.length - i = d → d < k → x.length = l.length → x.take i = (l.map cv).take i → laws_toCutS.l0 k l x (i : Int) = some (l.map cv) := by
  induction d with
  | zero =>
    intro k x i hd hk hx ht
    obtain ⟨k, rfl⟩ : ∃ m, k = m + 1 := ⟨k - 1, by omega⟩
    simp only [laws_toCutS.l0]; rw [if_neg (by omega)]
    rw [List.take_of_length_le (by omega), List.take_of_length_le (by simp; omega)] at ht
    rw [ht]
  | succ d ih =>
    intro k x i hd hk hx ht
    obtain ⟨k, rfl⟩ : ∃ m, k = m + 1 := ⟨k - 1, by omega⟩
    have hi : i < l.length := by omega
    have e : rd_T64 l (i : Int) = l[i] := by unfold rd_T64; rw [Int.toNat_natCast, List.getD_eq_getElem?_getD, List.getElem?_eq_getElem hi]; rfl
    simp only [laws_toCutS.l0, laws_toCut.f, e]; rw [if_pos (by omega), if_pos (by omega)]
    simp only [Option.bind_some]; rw [if_pos (by omega), c_wrap _ (by omega) (by omega), Int.toNat_natCast, show ((i : Int) + 1) = ((i + 1 : Nat) : Int) by omega]
    refine ih k _ (i + 1) (by omega) (by omega) (by rw [List.length_set]; exact hx) ?_
    have h' : i < (x.set i (⟨l[i].f0, l[i].f1, l[i].f2⟩ : S62)).length := by rw [List.length_set]; omega
    rw [List.take_succ_eq_append_getElem h', List.getElem_set_self, List.take_set_of_le (Nat.le_refl i), ht, List.take_succ_eq_append_getElem (by simpa using hi), List.getElem_map]; rfl
theorem toCutS_t (l : List S64) (hl : l.length ≤ 1048576) (k : Nat) (hk : l.length < k) : laws_toCutS.f k l = some (l.map cv) := by
  unfold laws_toCutS.f
  rw [if_pos (by omega), if_pos (by omega), Int.toNat_natCast]
  exact toCutS_l l hl l.length k _ 0 (by omega) hk (by simp) rfl
theorem eqCutS_l (l : List S62) (hl : l.length ≤ 1048576) (d : Nat) : ∀ (k : Nat) (i : Nat), l.length - i = d → d < k → laws_eqCutS.l0 k l l (i : Int) = some true := by
  induction d with
  | zero =>
    intro k i hd hk
    obtain ⟨k, rfl⟩ : ∃ m, k = m + 1 := ⟨k - 1, by omega⟩
    simp only [laws_eqCutS.l0]; rw [if_neg (by omega)]
  | succ d ih =>
    intro k i hd hk
    obtain ⟨k, rfl⟩ : ∃ m, k = m + 1 := ⟨k - 1, by omega⟩
    simp only [laws_eqCutS.l0, laws_eqCut.f]; rw [if_pos (by omega), if_pos (by omega), if_pos (by omega)]
    simp only [if_true, Option.bind_some]
    rw [c_wrap _ (by omega) (by omega), show ((i : Int) + 1) = ((i + 1 : Nat) : Int) by omega]
    exact ih k (i + 1) (by omega) (by omega)
theorem eqCutS_t (l : List S62) (hl : l.length ≤ 1048576) (k : Nat) (hk : l.length < k) : laws_eqCutS.f k l l = some true := by
  unfold laws_eqCutS.f
  rw [if_pos rfl, show (0 : Int) = ((0 : Nat) : Int) from rfl]
  exact eqCutS_l l hl l.length k 0 (by omega) hk
theorem dg_t (n : Nat) (h : n < 9000000000000000000) : strOfNums [(wrap64 (48 + Int.tmod (n : Int) 10)) % 256] = ⟨#[UInt8.ofNat (48 + n % 10)]⟩ := by
  have e : Int.tmod (n : Int) 10 = ((n % 10 : Nat) : Int) := rfl
  rw [e, b_wrap _ (by omega) (by omega)]
  have e2 : ((48 : Int) + ((n % 10 : Nat) : Int)) % 256 = ((48 + n % 10 : Nat) : Int) := by omega
  rw [e2]
  show (⟨[UInt8.ofNat ((48 + n % 10 : Nat) : Int).toNat].toArray⟩ : ByteArray) = _
  rw [Int.toNat_natCast]
theorem sz_l (l : List UInt8) : (⟨l.toArray⟩ : ByteArray).size = l.length := by simp [ByteArray.size]
theorem app_l (l : List UInt8) (d : UInt8) : (⟨l.toArray⟩ : ByteArray) ++ (⟨#[d]⟩ : ByteArray) = ⟨(l ++ [d]).toArray⟩ := by
  apply ByteArray.ext
  simp [ByteArray.data_append]
theorem dec_len : ∀ (k n : Nat), n < 10 ^ (k + 1) → (Lib.decDigits n).length ≤ k + 1
  | 0, n, h => by rw [Lib.decDigits, dif_pos (by simpa using h)]; simp
  | k + 1, n, h => by
    rw [Lib.decDigits]
    split
    · simp
    · rw [List.length_append]
      have := dec_len k (n / 10) (by rw [Nat.pow_succ] at h; omega)
      simp only [List.length_singleton]
      omega
theorem dec_t : ∀ (k n : Nat), k ≤ 17 → n < 10 ^ (k + 1) → spec_Decimal.f (k + 1) (n : Int) = some ⟨(Lib.decDigits n).toArray⟩
  | k, n, hk, h => by
    have hn : n < 1000000000000000000 := Nat.lt_of_lt_of_le h (Nat.le_trans (Nat.pow_le_pow_right (by decide) (show k + 1 ≤ 18 by omega)) (by decide))
    unfold spec_Decimal.f
    by_cases h1 : n < 10
    · rw [if_pos (by omega), dg_t n (by omega), Lib.decDigits, dif_pos h1, Nat.mod_eq_of_lt h1]
    · rw [if_neg (by omega)]
      have e : Int.tdiv (n : Int) 10 = ((n / 10 : Nat) : Int) := rfl
      rw [e, b_wrap _ (by omega) (by omega)]
      match k, hk, h with
      | 0, _, h => exact absurd h (by simpa using h1)
      | k + 1, hk, h =>
        have hl := dec_len k (n / 10) (by rw [Nat.pow_succ] at h; omega)
        rw [dec_t k (n / 10) (by omega) (by rw [Nat.pow_succ] at h; omega)]
        simp only [Option.bind_some]
        rw [dg_t n (by omega), sz_l, if_pos (by have : (⟨#[UInt8.ofNat (48 + n % 10)]⟩ : ByteArray).size = 1 := rfl; omega), app_l]
        conv => rhs; rw [Lib.decDigits, dif_neg h1]
theorem dec_i (k : Nat) (a : Int) (h0 : 0 ≤ a) (h1 : a < 10 ^ (k + 1)) (hk : k ≤ 17) : spec_Decimal.f (k + 1) a = some ⟨(Lib.itoa a).toArray⟩ := by
  obtain ⟨n, rfl⟩ := Int.eq_ofNat_of_zero_le h0
  rw [Lib.itoa_nonneg]
  exact dec_t k n hk (by exact_mod_cast h1)
theorem itoa_len (k : Nat) (a : Int) (h0 : 0 ≤ a) (h1 : a < 10 ^ (k + 1)) : (Lib.itoa a).length ≤ k + 1 := by
  obtain ⟨n, rfl⟩ := Int.eq_ofNat_of_zero_le h0
  rw [Lib.itoa_nonneg]
  exact dec_len k n (by exact_mod_cast h1)
theorem dec_k (k : Nat) (a : Int) (h0 : 0 ≤ a) (h1 : a < 10000000000) (hk : 10 ≤ k) : spec_Decimal.f k a = some ⟨(Lib.itoa a).toArray⟩ :=
  at_rounds (fun k => spec_Decimal.mono a k) hk (dec_i 9 a h0 (by omega) (by omega))
theorem itoa_b (a : Int) (h0 : 0 ≤ a) (h1 : a < 10000000000) : ∃ t : ByteArray, t = ⟨(Lib.itoa a).toArray⟩ ∧ t.size ≤ 10 := ⟨_, rfl, by rw [sz_l]; exact itoa_len 9 a h0 (by omega)⟩
theorem text_l (l : List S62) (hl : l.length ≤ 400) (hp : ∀ j, j < l.length → Pl 8 (l.getD j z62)) (d : Nat) : ∀ (k i : Nat) (acc : List UInt8), l.length - i = d → d + 20 < k → i ≤ l.length → acc.length ≤ 66 * i →
    spec_l06Text.l0 k l ⟨acc.toArray⟩ (i : Int) = some ⟨(acc ++ (l.drop i).flatMap impl_CutsText.line).toArray⟩ := by
  induction d with
  | zero =>
    intro k i acc hd hk hi ha
    obtain ⟨k, rfl⟩ : ∃ m, k = m + 1 := ⟨k - 1, by omega⟩
    simp only [spec_l06Text.l0]; rw [if_neg (by omega), List.drop_of_length_le (by omega)]; simp
  | succ d ih =>
    intro k i acc hd hk hi' ha
    obtain ⟨k, rfl⟩ : ∃ m, k = m + 1 := ⟨k - 1, by omega⟩
    have hi : i < l.length := by omega
    obtain ⟨⟨b0, b0'⟩, ⟨b1, b1'⟩, ⟨b2, b2'⟩⟩ := hp i hi
    have p1 : (i : Int) < (l.length : Int) := by omega
    have p2 : 0 ≤ (i : Int) := by omega
    have w : wrap64 ((i : Int) + 1) = ((i + 1 : Nat) : Int) := by rw [c_wrap _ (by omega) (by omega)]; omega
    simp only [spec_l06Text.l0, if_pos p1, if_pos p2, rd62, w]
    obtain ⟨x, hx⟩ : ∃ x, x = l.getD i z62 := ⟨_, rfl⟩
    rw [← hx] at b0 b0' b1 b1' b2 b2' ⊢
    have w0 : wrap64 x.f0 = x.f0 := c_wrap _ (by omega) (by omega)
    have w1 : wrap64 x.f1 = x.f1 := c_wrap _ (by omega) (by omega)
    have w2 : wrap64 x.f2 = x.f2 := c_wrap _ (by omega) (by omega)
    rw [w0, w1, w2, dec_k k x.f0 (by omega) (by omega) (by omega), dec_k k x.f1 (by omega) (by omega) (by omega), dec_k k x.f2 (by omega) (by omega) (by omega)]
    obtain ⟨t0, e0, s0⟩ := itoa_b x.f0 (by omega) (by omega)
    obtain ⟨t1, e1, s1⟩ := itoa_b x.f1 (by omega) (by omega)
    obtain ⟨t2, e2, s2⟩ := itoa_b x.f2 (by omega) (by omega)
    obtain ⟨ac, ea, sa⟩ : ∃ t : ByteArray, t = ⟨acc.toArray⟩ ∧ t.size ≤ 66 * i := ⟨_, rfl, by rw [sz_l]; exact ha⟩
    rw [← e0, ← e1, ← e2, ← ea]
    simp only [Option.bind_some]
    have q1 : (⟨#[32]⟩ : ByteArray).size = 1 := rfl
    have q2 : (⟨#[10]⟩ : ByteArray).size = 1 := rfl
    simp only [ByteArray.size_append]
    rw [q1, q2, if_pos (by omega), if_pos (by omega), if_pos (by omega), if_pos (by omega), if_pos (by omega), if_pos (by omega)]
    have e : ac ++ (((((t0 ++ (⟨#[32]⟩ : ByteArray)) ++ t1) ++ (⟨#[32]⟩ : ByteArray)) ++ t2) ++ (⟨#[10]⟩ : ByteArray)) = ⟨(acc ++ impl_CutsText.line x).toArray⟩ := by
      rw [e0, e1, e2, ea]
      unfold impl_CutsText.line
      rw [w0, w1, w2]
      apply ByteArray.ext
      simp [ByteArray.data_append]
    rw [e, ih k (i + 1) (acc ++ impl_CutsText.line x) (by omega) (by omega) (by omega) (by rw [List.length_append]; have := impl_CutsText.line_len x; omega)]
    have e3 : l.drop i = x :: l.drop (i + 1) := by
      rw [hx, List.getD_eq_getElem?_getD, List.getElem?_eq_getElem hi, List.drop_eq_getElem_cons hi]; rfl
    rw [e3, List.flatMap_cons, List.append_assoc]
theorem text_t (l : List S62) (hl : l.length ≤ 400) (hp : ∀ j, j < l.length → Pl 8 (l.getD j z62)) (k : Nat) (hk : l.length + 20 < k) : spec_l06Text.f k l = some ⟨(l.flatMap impl_CutsText.line).toArray⟩ := by
  unfold spec_l06Text.f
  have := text_l l hl hp l.length k 0 [] (by omega) hk (by omega) (by simp)
  simpa using this
/-- The two programs' texts of a list of cuts. -/
theorem cutsText_t (l : List S62) (hl : l.length ≤ 1048576) (hF : Fit l) (k : Nat) (hk : l.length + 500 < k) : ∃ r, spec_CutsText.f k l = some r ∧ impl_CutsText.f k l = some r := by
  obtain ⟨b, hb, h⟩ := plain_t l hl hF 8 (by omega)
  obtain ⟨h1, h2⟩ := h k (by omega)
  unfold spec_CutsText.f impl_CutsText.f
  rw [h1, h2]
  simp only [Option.bind_some]
  cases b with
  | false => exact ⟨_, rfl, rfl⟩
  | true =>
    obtain ⟨p1, p2⟩ := hb.1 rfl
    rw [if_pos rfl, if_pos rfl, if_pos hl, text_t l p1 p2 k (by omega)]
    exact ⟨_, rfl, rfl⟩
theorem FnExactCutsText (l0 : List S64) (hF0 : F30 l0) (y0 : l0.length * by_64 ≤ 140737488351232) : ∃ k, laws_FnExactCutsText.f k l0 = some true := by
  have y0' : l0.length * 6 ≤ 140737488351232 := y0
  have hw : wrap64 (1048576 - (l0.length : Int)) = 1048576 - (l0.length : Int) := c_wrap _ (by omega) (by omega)
  by_cases h : 1048576 - (l0.length : Int) < 0
  · refine ⟨1, ?_⟩
    unfold laws_FnExactCutsText.f laws_szCutS.f
    rw [hw, if_pos h]; simp
  have hl : l0.length ≤ 1048576 := by omega
  have hl2 : (l0.map cv).length ≤ 1048576 := by simpa using hl
  obtain ⟨k, hk⟩ : ∃ k, k = l0.length + 1000 := ⟨_, rfl⟩
  refine ⟨k, ?_⟩
  obtain ⟨r, s, i⟩ := cutsText_t (l0.map cv) hl2 (fit_cv l0 hF0) k (by simp; omega)
  have e1 := toCutS_t l0 hl k (by omega)
  have e3 := eqCutS_t (l0.map cv) hl2 k (by simp; omega)
  unfold laws_FnExactCutsText.f laws_szCutS.f
  rw [hw, if_neg h]
  simp only [Option.bind_some]
  rw [if_neg (by omega)]
  simp only [e1, Option.bind_some, s, i, if_true, e3]

end Go.Proofs.YtcfjdpegllnhfaaDoor.Pure
