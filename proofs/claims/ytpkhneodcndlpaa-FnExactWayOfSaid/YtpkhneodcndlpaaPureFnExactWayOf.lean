/- The pure statement of the law FnExactWayOf is proved: for every input that the law speaks of, the law's function answers true. No conditions beyond the statement's own. -/
import Derived.Test.YtpkhneodcndlpaaFFnExactWayOfx
import Derived.Test.YtpkhneodcndlpaaShapeFnExactWayOf
import Derived.OpenShut
namespace Go.Proofs.Ytpkhneodcndlpaa.Pure
open Go.RowKit Go.Proofs.Ytpkhneodcndlpaa.FFnExactWayOf Go.Proofs.YtpkhneodcndlpaaW.PrintWords Go.Proofs.YtpkhneodcndlpaaW.PrintLast
set_option linter.unusedVariables false

theorem impl_inRange_t (a b c : Int) : impl_inRange.f a b c = some (decide (b ≤ a ∧ a ≤ c)) := by
  unfold impl_inRange.f
  by_cases h : b ≤ a
  · rw [if_pos h]; simp [h]
  · rw [if_neg h]; simp [h]
theorem spec_l00In_t (a b c : Int) : spec_l00In.f a b c = some (decide (b ≤ a ∧ a ≤ c)) := by
  unfold spec_l00In.f
  by_cases h : b ≤ a
  · rw [if_pos h]; simp [h]
  · rw [if_neg h]; simp [h]
theorem c_wrap (x : Int) (h : -9223372036854775808 ≤ x) (h' : x ≤ 9223372036854775807) : wrap64 x = x := by
  unfold wrap64; omega
/-- The fields of all cuts fit their kinds. -/
def Fit (l : List S50) : Prop := ∀ j : Nat, (-32768 ≤ (l.getD j z50).f0 ∧ (l.getD j z50).f0 ≤ 32767) ∧ (-32768 ≤ (l.getD j z50).f1 ∧ (l.getD j z50).f1 ≤ 32767) ∧ (-128 ≤ (l.getD j z50).f2 ∧ (l.getD j z50).f2 ≤ 127)
theorem rd50 (l : List S50) (i : Nat) : rd_T50 l (i : Int) = l.getD i z50 := by unfold rd_T50; rw [Int.toNat_natCast]
/-- A cut that is plain, with so many cutters. -/
def Pl (c : Int) (x : S50) : Prop := (0 ≤ x.f0 ∧ x.f0 ≤ 359) ∧ (0 ≤ x.f1 ∧ x.f1 ≤ 10000) ∧ (0 ≤ x.f2 ∧ x.f2 ≤ c - 1)

theorem plain_l (l : List S50) (hl : l.length ≤ 1048576) (hF : Fit l) (c : Int) (hc : 0 ≤ c ∧ c ≤ 1048576) (d : Nat) : ∀ (k i : Nat), l.length - i = d → d < k →
    ∃ r v, spec_l06Plain.l0 k l c (i : Int) = some r ∧ impl_Cut_c89_100.l0 k l (l.length : Int) (i : Int) [c] = some v ∧ (r = !(decide (v ≥ 0))) ∧ (r = true ↔ ∀ j, i ≤ j → j < l.length → Pl c (l.getD j z50)) := by
  induction d with
  | zero =>
    intro k i hd hk
    obtain ⟨k, rfl⟩ : ∃ m, k = m + 1 := ⟨k - 1, by omega⟩
    refine ⟨true, -1, ?_, ?_, by simp, ?_⟩
    · simp only [spec_l06Plain.l0]; rw [if_neg (by omega)]
    · simp only [impl_Cut_c89_100.l0]; rw [if_neg (by omega)]
    · simp only [true_iff]; intro j h1 h2; omega
  | succ d ih =>
    intro k i hd hk
    obtain ⟨k, rfl⟩ : ∃ m, k = m + 1 := ⟨k - 1, by omega⟩
    obtain ⟨b0, b1, b2⟩ := hF i
    have p1 : (i : Int) < (l.length : Int) := by omega
    have p2 : 0 ≤ (i : Int) := by omega
    have w : wrap64 ((i : Int) + 1) = ((i + 1 : Nat) : Int) := by rw [c_wrap _ (by omega) (by omega)]; omega
    simp only [spec_l06Plain.l0, impl_Cut_c89_100.l0, if_pos p1, if_pos p2, rd50, w]
    unfold spec_l01Lift.f impl_areCuts_1.f impl_isLift.f impl_isPlace.f
    rw [c_wrap _ (by omega) (by omega), c_wrap _ (by omega) (by omega), c_wrap _ (by omega) (by omega), c_wrap _ (by omega) (by omega)]
    rw [show wrap64 (rd [c] 0 - 1) = c - 1 from c_wrap _ (by unfold rd; simp; omega) (by unfold rd; simp; omega)]
    simp only [spec_l00In_t, impl_inRange_t, Option.bind_some]
    have stop : ∀ q : ¬ Pl c (l.getD i z50), ∃ r v, some false = some r ∧ some ((i : Nat) : Int) = some v ∧ (r = !(decide (v ≥ 0))) ∧ (r = true ↔ ∀ j, i ≤ j → j < l.length → Pl c (l.getD j z50)) := fun q =>
      ⟨false, i, rfl, rfl, by simp, ⟨(fun h => by cases h), fun h => absurd (h i (Nat.le_refl _) (by omega)) q⟩⟩
    by_cases c0 : 0 ≤ (l.getD i z50).f0 ∧ (l.getD i z50).f0 ≤ 359
    · by_cases c1 : 0 ≤ (l.getD i z50).f1 ∧ (l.getD i z50).f1 ≤ 10000
      · by_cases c2 : 0 ≤ (l.getD i z50).f2 ∧ (l.getD i z50).f2 ≤ c - 1
        · obtain ⟨r, v, h1, h2, h3, h4⟩ := ih k (i + 1) (by omega) (by omega)
          refine ⟨r, v, ?_, ?_, h3, ?_⟩
          · simp only [decide_eq_true c0, decide_eq_true c1, decide_eq_true c2, if_true]; exact h1
          · simp only [decide_eq_true c0, decide_eq_true c1, decide_eq_true c2, if_true, List.length_singleton, show (0 : Int) < ((1 : Nat) : Int) by omega, Option.bind_some, Bool.not_true, Bool.false_eq_true, if_false]; exact h2
          · rw [h4]
            refine ⟨fun h j q1 q2 => ?_, fun h j q1 q2 => h j (by omega) q2⟩
            by_cases e : j = i
            · subst e; exact ⟨c0, c1, c2⟩
            · exact h j (by omega) q2
        · have := stop (fun q => c2 q.2.2)
          simpa only [decide_eq_true c0, decide_eq_true c1, decide_eq_false c2, if_true, Bool.false_eq_true, if_false, List.length_singleton, show (0 : Int) < ((1 : Nat) : Int) by omega, Option.bind_some, Bool.not_false] using this
      · have := stop (fun q => c1 q.2.1)
        simpa only [decide_eq_true c0, decide_eq_false c1, if_true, Bool.false_eq_true, if_false, Option.bind_some] using this
    · have := stop (fun q => c0 q.1)
      simpa only [decide_eq_false c0, if_true, Bool.false_eq_true, if_false, Option.bind_some] using this

theorem plain_t (l : List S50) (hl : l.length ≤ 1048576) (hF : Fit l) (c : Int) (hc : 0 ≤ c ∧ c ≤ 1048576) : ∃ b : Bool, (b = true ↔ l.length ≤ 400 ∧ ∀ j, j < l.length → Pl c (l.getD j z50)) ∧ ∀ k, l.length < k → spec_l06Plain.f k l c = some b ∧ impl_areCuts.f k l c = some b := by
  by_cases h : l.length ≤ 400
  · obtain ⟨r, v, h1, h2, h3, h4⟩ := plain_l l hl hF c hc l.length (l.length + 1) 0 (by omega) (by omega)
    refine ⟨r, ?_, fun k hk => ?_⟩
    · rw [h4]; exact ⟨fun q => ⟨h, fun j hj => q j (by omega) hj⟩, fun q j _ hj => q.2 j hj⟩
    · have h1' := at_rounds (fun k => (spec_l06Plain.mono_l k) l c ((0 : Nat) : Int)) (show l.length + 1 ≤ k by omega) h1
      have h2' := at_rounds (fun k => (impl_Cut_c89_100.mono_l k) l (l.length : Int) ((0 : Nat) : Int) [c]) (show l.length + 1 ≤ k by omega) h2
      constructor
      · unfold spec_l06Plain.f; rw [if_neg (by omega)]; exact h1'
      · unfold impl_areCuts.f impl_Cut_c89_88.f impl_Cut_c89_100.f
        rw [if_pos (by omega), show (0 : Int) = ((0 : Nat) : Int) from rfl, h2']
        simp only [Option.bind_some]; rw [h3]; simp
  · refine ⟨false, ⟨(fun q => by cases q), fun q => absurd q.1 h⟩, fun k hk => ⟨?_, ?_⟩⟩
    · unfold spec_l06Plain.f; rw [if_pos (by omega)]
    · unfold impl_areCuts.f; rw [if_neg (by omega)]
theorem on_l (l : List S50) (hl : l.length ≤ 1048576) (hF : Fit l) (c : Int) (d : Nat) : ∀ (k i : Nat), l.length - i = d → d < k →
    ∃ r v, spec_l06On.l0 k l c (i : Int) = some r ∧ impl_Cut_c97_100.l0 k l (l.length : Int) (i : Int) [c] = some v ∧ (r = !(decide (v ≥ 0))) ∧ (r = true ↔ ∀ j, i ≤ j → j < l.length → (l.getD j z50).f0 < c) := by
  induction d with
  | zero =>
    intro k i hd hk
    obtain ⟨k, rfl⟩ : ∃ m, k = m + 1 := ⟨k - 1, by omega⟩
    refine ⟨true, -1, ?_, ?_, by simp, ?_⟩
    · simp only [spec_l06On.l0]; rw [if_neg (by omega)]
    · simp only [impl_Cut_c97_100.l0]; rw [if_neg (by omega)]
    · simp only [true_iff]; intro j h1 h2; omega
  | succ d ih =>
    intro k i hd hk
    obtain ⟨k, rfl⟩ : ∃ m, k = m + 1 := ⟨k - 1, by omega⟩
    obtain ⟨b0, b1, b2⟩ := hF i
    have p1 : (i : Int) < (l.length : Int) := by omega
    have p2 : 0 ≤ (i : Int) := by omega
    have w : wrap64 ((i : Int) + 1) = ((i + 1 : Nat) : Int) := by rw [c_wrap _ (by omega) (by omega)]; omega
    have e1 : rd [c] 0 = c := by unfold rd; simp
    simp only [spec_l06On.l0, impl_Cut_c97_100.l0, if_pos p1, if_pos p2, rd50, w]
    unfold impl_areOn_1.f
    simp only [List.length_singleton, show (0 : Int) < ((1 : Nat) : Int) by omega, if_true, e1, Option.bind_some]
    rw [c_wrap _ (by omega) (by omega)]
    by_cases q : (l.getD i z50).f0 ≥ c
    · refine ⟨false, i, by rw [if_pos q], by rw [if_pos (decide_eq_true q)], by simp, ⟨(fun h => by cases h), fun h => absurd (h i (Nat.le_refl _) (by omega)) (by omega)⟩⟩
    · obtain ⟨r, v, h1, h2, h3, h4⟩ := ih k (i + 1) (by omega) (by omega)
      refine ⟨r, v, by rw [if_neg q]; exact h1, by rw [if_neg (by simpa using q)]; exact h2, h3, ?_⟩
      rw [h4]
      refine ⟨fun h j q1 q2 => ?_, fun h j q1 q2 => h j (by omega) q2⟩
      by_cases e : j = i
      · subst e; omega
      · exact h j (by omega) q2

theorem on_t (l : List S50) (hl : l.length ≤ 1048576) (hF : Fit l) (c : Int) : ∃ b : Bool, (b = true ↔ ∀ j, j < l.length → (l.getD j z50).f0 < c) ∧ ∀ k, l.length < k → spec_l06On.f k l c = some b ∧ impl_areOn.f k l c = some b := by
  obtain ⟨r, v, h1, h2, h3, h4⟩ := on_l l hl hF c l.length (l.length + 1) 0 (by omega) (by omega)
  refine ⟨r, ?_, fun k hk => ?_⟩
  · rw [h4]; exact ⟨fun q j hj => q j (by omega) hj, fun q j _ hj => q j hj⟩
  · have h1' := at_rounds (fun k => (spec_l06On.mono_l k) l c ((0 : Nat) : Int)) (show l.length + 1 ≤ k by omega) h1
    have h2' := at_rounds (fun k => (impl_Cut_c97_100.mono_l k) l (l.length : Int) ((0 : Nat) : Int) [c]) (show l.length + 1 ≤ k by omega) h2
    constructor
    · unfold spec_l06On.f; exact h1'
    · unfold impl_areOn.f impl_Cut_c97_88.f impl_Cut_c97_100.f
      rw [show (0 : Int) = ((0 : Nat) : Int) from rfl, h2']
      simp only [Option.bind_some]; rw [h3]; simp

theorem first_t (a b : Int) (k : Nat) (hk : 3 ≤ k) : impl_firstCode.f k [a, b] = some (if a = 0 then b else a) := by
  obtain ⟨k, rfl⟩ : ∃ m, k = m + 3 := ⟨k - 3, by omega⟩
  unfold impl_firstCode.f
  simp only [impl_firstCode.l0, List.length_cons, List.length_nil, show ((0 + 1 + 1 : Nat) : Int) = 2 from rfl, show (0 : Int) < 2 by omega, show (0 : Int) ≤ 0 by omega, show wrap64 (0 + 1) = 1 by unfold wrap64; omega, show (1 : Int) < 2 by omega, show (0 : Int) ≤ 1 by omega, show wrap64 (1 + 1) = 2 by unfold wrap64; omega, show ¬ ((2 : Int) < 2) by omega, if_true, if_false, rd, show (0 : Int).toNat = 0 from rfl, show (1 : Int).toNat = 1 from rfl, List.getD_cons_zero, List.getD_cons_succ]
  by_cases h : a = 0
  · rw [if_pos h, if_pos h]
    by_cases h2 : b = 0
    · rw [if_pos h2, h2]
    · rw [if_neg h2]
  · rw [if_neg h, if_neg h]

/-- The code of cuts without cutters is the same on both sides. -/
theorem code_t (a : Int) (l : List S50) (hl : l.length ≤ 1048576) (hF : Fit l) : ∃ c : Int, (c = 0 → (8 ≤ a ∧ a ≤ 360) ∧ l.length ≤ 400 ∧ (∀ j, j < l.length → Pl 8 (l.getD j z50)) ∧ ∀ j, j < l.length → (l.getD j z50).f0 < a) ∧
    ((8 ≤ a ∧ a ≤ 360) → l.length ≤ 400 → (∀ j, j < l.length → Pl 8 (l.getD j z50)) → (∀ j, j < l.length → (l.getD j z50).f0 < a) → c = 0) ∧
    ∀ k, l.length + 4 < k → spec_l06Round.f k a l = some c ∧ impl_wayCode.f k a l = some c := by
  obtain ⟨b1, i1, h1⟩ := plain_t l hl hF 8 (by omega)
  obtain ⟨b2, i2, h2⟩ := on_t l hl hF a
  refine ⟨if b1 = true then (if 8 ≤ a ∧ a ≤ 360 then (if b2 = true then 0 else 2) else 2) else 1, ?_, ?_, fun k hk => ?_⟩
  · intro h
    by_cases q1 : b1 = true
    · rw [if_pos q1] at h
      by_cases q2 : 8 ≤ a ∧ a ≤ 360
      · rw [if_pos q2] at h
        by_cases q3 : b2 = true
        · exact ⟨q2, (i1.1 q1).1, (i1.1 q1).2, i2.1 q3⟩
        · rw [if_neg q3] at h; omega
      · rw [if_neg q2] at h; omega
    · rw [if_neg q1] at h; omega
  · intro q1 q2 q3 q4
    rw [if_pos (i1.2 ⟨q2, q3⟩), if_pos q1, if_pos (i2.2 q4)]
  · obtain ⟨s1, m1⟩ := h1 k (by omega)
    obtain ⟨s2, m2⟩ := h2 k (by omega)
    constructor
    · unfold spec_l06Round.f spec_l01Steps.f
      rw [s1, s2, spec_l00In_t]
      simp only [Option.bind_some]
      cases b1 with
      | false => simp
      | true =>
        by_cases q : 8 ≤ a ∧ a ≤ 360
        · cases b2 <;> simp [q]
        · simp [q]
    · unfold impl_wayCode.f impl_codeIf.f impl_isSteps.f
      rw [m1, m2, impl_inRange_t]
      simp only [Option.bind_some]
      by_cases q : 8 ≤ a ∧ a ≤ 360
      · cases b1 <;> cases b2 <;> simp [q, first_t _ _ k (by omega)]
      · cases b1 <;> simp [q, first_t _ _ k (by omega)]

/-- The distance of two steps. -/
def far (a x y : Int) : Int := if (if x - y < 0 then y - x else x - y) < a - (if x - y < 0 then y - x else x - y) then (if x - y < 0 then y - x else x - y) else a - (if x - y < 0 then y - x else x - y)
theorem far_s (a x0 x1 x2 y0 y1 y2 : Int) (hx : -32768 ≤ x0 ∧ x0 ≤ 32767) (hy : -32768 ≤ y0 ∧ y0 ≤ 32767) (ha : 0 ≤ a ∧ a ≤ 1048576) : spec_l06Far.f a x0 x1 x2 y0 y1 y2 = some (far a x0 y0) := by
  unfold spec_l06Far.f spec_l01Size.f spec_l00Min.f far
  rw [c_wrap x0 (by omega) (by omega), c_wrap y0 (by omega) (by omega), c_wrap (x0 - y0) (by omega) (by omega)]
  by_cases h : x0 - y0 < 0
  · rw [if_pos h, c_wrap (-(x0 - y0)) (by omega) (by omega)]
    simp only [Option.bind_some, if_pos h]
    rw [c_wrap _ (by omega) (by omega), show -(x0 - y0) = y0 - x0 by omega]
    split <;> rfl
  · simp only [Option.bind_some, if_neg h]
    rw [c_wrap _ (by omega) (by omega)]
    split <;> rfl
theorem far_i (a x0 x1 x2 y0 y1 y2 : Int) (hx : -32768 ≤ x0 ∧ x0 ≤ 32767) (hy : -32768 ≤ y0 ∧ y0 ≤ 32767) (ha : 0 ≤ a ∧ a ≤ 1048576) : impl_apart.f x0 x1 x2 y0 y1 y2 a = some (far a x0 y0) := by
  unfold impl_apart.f impl_abs.f far
  rw [c_wrap x0 (by omega) (by omega), c_wrap y0 (by omega) (by omega), c_wrap (x0 - y0) (by omega) (by omega), c_wrap (-(x0 - y0)) (by omega) (by omega)]
  simp only [Option.bind_some]
  rw [c_wrap (a - mx (x0 - y0) (-(x0 - y0))) (by unfold mx; split <;> omega) (by unfold mx; split <;> omega)]
  congr 1
  unfold mn mx
  repeat' split
  all_goals omega
/-- A cut as the program has it. -/
def cv (x : S74) : S50 := ⟨x.f0, x.f1, x.f2⟩
theorem fit_cv (l : List S74) (h : F22 l) : Fit (l.map cv) := by
  intro j
  by_cases hj : j < l.length
  · have e : (l.map cv).getD j z50 = cv l[j] := by rw [List.getD_eq_getElem?_getD, List.getElem?_map, List.getElem?_eq_getElem hj]; rfl
    have hx := h.2 _ (List.getElem_mem hj)
    rw [e]; unfold cv
    obtain ⟨h0, h1, h2⟩ := hx
    exact ⟨Go.bounds_i16 h0, Go.bounds_i16 h1, Go.bounds_i8 h2⟩
  · have e : (l.map cv).getD j z50 = z50 := by rw [List.getD_eq_getElem?_getD, List.getElem?_eq_none (by simpa using hj)]; rfl
    rw [e]; unfold z50; simp
theorem toCutS_l (l : List S74) (hl : l.length ≤ 1048576) (d : Nat) : ∀ (k : Nat) (x : List S50) (i : Nat), l.length - i = d → d < k → x.length = l.length → x.take i = (l.map cv).take i → laws_toCutS.l0 k l x (i : Int) = some (l.map cv) := by
  induction d with
  | zero =>
    intro k x i hd hk hx ht
    obtain ⟨k, rfl⟩ : ∃ m, k = m + 1 := ⟨k - 1, by omega⟩
    simp only [laws_toCutS.l0]; rw [if_neg (by omega)]
    rw [List.take_of_length_le (by omega), List.take_of_length_le (by simp; omega)] at ht
    rw [ht]
  | succ d ih =>
    intro k x i hd hk hx ht
    obtain ⟨k, rfl⟩ : ∃ m, k = m + 1 := ⟨k - 1, by omega⟩
    have hi : i < l.length := by omega
    have e : rd_T74 l (i : Int) = l[i] := by unfold rd_T74; rw [Int.toNat_natCast, List.getD_eq_getElem?_getD, List.getElem?_eq_getElem hi]; rfl
    simp only [laws_toCutS.l0, laws_toCut.f, e]; rw [if_pos (by omega), if_pos (by omega)]
    simp only [Option.bind_some]; rw [if_pos (by omega), c_wrap _ (by omega) (by omega), Int.toNat_natCast, show ((i : Int) + 1) = ((i + 1 : Nat) : Int) by omega]
    refine ih k _ (i + 1) (by omega) (by omega) (by rw [List.length_set]; exact hx) ?_
    have h' : i < (x.set i (⟨l[i].f0, l[i].f1, l[i].f2⟩ : S50)).length := by rw [List.length_set]; omega
    rw [List.take_succ_eq_append_getElem h', List.getElem_set_self, List.take_set_of_le (Nat.le_refl i), ht, List.take_succ_eq_append_getElem (by simpa using hi), List.getElem_map]; rfl
theorem toCutS_t (l : List S74) (hl : l.length ≤ 1048576) (k : Nat) (hk : l.length < k) : laws_toCutS.f k l = some (l.map cv) := by
  unfold laws_toCutS.f
  rw [if_pos (by omega), if_pos (by omega), Int.toNat_natCast]
  exact toCutS_l l hl l.length k _ 0 (by omega) hk (by simp) rfl
theorem eqCutS_l (l : List S50) (hl : l.length ≤ 1048576) (d : Nat) : ∀ (k : Nat) (i : Nat), l.length - i = d → d < k → laws_eqCutS.l0 k l l (i : Int) = some true := by
  induction d with
  | zero =>
    intro k i hd hk
    obtain ⟨k, rfl⟩ : ∃ m, k = m + 1 := ⟨k - 1, by omega⟩
    simp only [laws_eqCutS.l0]; rw [if_neg (by omega)]
  | succ d ih =>
    intro k i hd hk
    obtain ⟨k, rfl⟩ : ∃ m, k = m + 1 := ⟨k - 1, by omega⟩
    simp only [laws_eqCutS.l0, laws_eqCut.f]; rw [if_pos (by omega), if_pos (by omega), if_pos (by omega)]
    simp only [if_true, Option.bind_some]
    rw [c_wrap _ (by omega) (by omega), show ((i : Int) + 1) = ((i + 1 : Nat) : Int) by omega]
    exact ih k (i + 1) (by omega) (by omega)
theorem eqCutS_t (l : List S50) (hl : l.length ≤ 1048576) (k : Nat) (hk : l.length < k) : laws_eqCutS.f k l l = some true := by
  unfold laws_eqCutS.f
  rw [if_pos rfl, show (0 : Int) = ((0 : Nat) : Int) from rfl]
  exact eqCutS_l l hl l.length k 0 (by omega) hk
theorem way_l (a : Int) (ha : 0 ≤ a ∧ a ≤ 1048576) (l : List S50) (hl : l.length ≤ 1048576) (hF : Fit l) (d : Nat) : ∀ (k i : Nat) (s : Int), l.length - i = d → 1 ≤ i → d < k →
    ∃ r, spec_WayOf.l0 k a l s (i : Int) = some r ∧ impl_WayOf.l0 k a l s (i : Int) = some r := by
  induction d with
  | zero =>
    intro k i s hd h1 hk
    obtain ⟨k, rfl⟩ : ∃ m, k = m + 1 := ⟨k - 1, by omega⟩
    refine ⟨(s, 0), ?_, ?_⟩
    · simp only [spec_WayOf.l0]; rw [if_neg (by omega)]
    · simp only [impl_WayOf.l0]; rw [if_neg (by omega)]
  | succ d ih =>
    intro k i s hd h1 hk
    obtain ⟨k, rfl⟩ : ∃ m, k = m + 1 := ⟨k - 1, by omega⟩
    have p1 : (i : Int) < (l.length : Int) := by omega
    have p2 : 0 ≤ (i : Int) := by omega
    have w : wrap64 ((i : Int) + 1) = ((i + 1 : Nat) : Int) := by rw [c_wrap _ (by omega) (by omega)]; omega
    have w1 : wrap64 ((i : Int) - 1) = ((i - 1 : Nat) : Int) := by rw [c_wrap _ (by omega) (by omega)]; omega
    obtain ⟨r, r1, r2⟩ := ih k (i + 1) (wrap64 (s + far a (l.getD (i - 1) z50).f0 (l.getD i z50).f0)) (by omega) (by omega) (by omega)
    refine ⟨r, ?_, ?_⟩
    · simp only [spec_WayOf.l0, w, w1, rd50, far_s a _ _ _ _ _ _ (hF (i - 1)).1 (hF i).1 ha, Option.bind_some]
      rw [if_pos p1, if_pos (by omega), if_pos (by omega), if_pos p2]; exact r1
    · simp only [impl_WayOf.l0, w, w1, rd50, far_i a _ _ _ _ _ _ (hF (i - 1)).1 (hF i).1 ha, Option.bind_some]
      rw [if_pos p1, if_pos (by omega), if_pos (by omega), if_pos p2]; exact r2

theorem way_t (a : Int) (l : List S50) (hl : l.length ≤ 1048576) (hF : Fit l) : ∃ r, ∀ k, l.length + 4 < k → spec_WayOf.f k a l = some r ∧ impl_WayOf.f k a l = some r := by
  obtain ⟨c, hc, _, h⟩ := code_t a l hl hF
  by_cases q : c = 0
  · obtain ⟨ha, _⟩ := hc q
    obtain ⟨r, r1, r2⟩ := way_l a (by omega) l hl hF (l.length - 1) (l.length + 1) 1 0 (by omega) (by omega) (by omega)
    refine ⟨r, fun k hk => ?_⟩
    obtain ⟨s, m⟩ := h k hk
    unfold spec_WayOf.f impl_WayOf.f
    rw [s, m]; simp only [Option.bind_some, if_pos q]
    exact ⟨at_rounds (fun k => (spec_WayOf.mono_l k) a l 0 ((1 : Nat) : Int)) (show l.length + 1 ≤ k by omega) r1, at_rounds (fun k => (impl_WayOf.mono_l k) a l 0 ((1 : Nat) : Int)) (show l.length + 1 ≤ k by omega) r2⟩
  · refine ⟨(0, c), fun k hk => ?_⟩
    obtain ⟨s, m⟩ := h k hk
    unfold spec_WayOf.f impl_WayOf.f
    rw [s, m]; simp only [Option.bind_some, if_neg q]
    exact ⟨trivial, trivial⟩

theorem FnExactWayOf (a0 : Int) (l1 : List S74) (w0 : (Lit.int .i64 a0).wf = true) (hF1 : F22 l1) (y1 : l1.length * by_74 ≤ 140737488351232) : ∃ k, laws_FnExactWayOf.f k a0 l1 = some true := by
  have y2 : l1.length * 6 ≤ 140737488351232 := y1
  have hw : wrap64 (1048576 - (l1.length : Int)) = 1048576 - (l1.length : Int) := c_wrap _ (by omega) (by omega)
  by_cases h : 1048576 - (l1.length : Int) < 0
  · refine ⟨1, ?_⟩
    unfold laws_FnExactWayOf.f laws_szCutS.f
    rw [hw, if_pos h]; simp
  · have hl : l1.length ≤ 1048576 := by omega
    have hl2 : (l1.map cv).length ≤ 1048576 := by simpa using hl
    obtain ⟨r, hr⟩ := way_t a0 (l1.map cv) hl2 (fit_cv l1 hF1)
    obtain ⟨m, hm⟩ : ∃ m, m = l1.length + 5 := ⟨_, rfl⟩
    refine ⟨m + 1, ?_⟩
    have e1 := toCutS_t l1 hl (m + 1) (by omega)
    have e0 := toCutS_t l1 hl m (by omega)
    obtain ⟨s, i⟩ := hr (m + 1) (by simp; omega)
    have q0 := eqCutS_t (l1.map cv) hl2 m (by simp; omega)
    unfold laws_FnExactWayOf.f laws_szCutS.f
    rw [hw, if_neg h]
    simp only [Option.bind_some, if_neg h, e1, s, i, if_true, bne_self_eq_false, laws_FnExactWayOf.j0, Bool.false_eq_true, if_false, e0, q0]

end Go.Proofs.Ytpkhneodcndlpaa.Pure
