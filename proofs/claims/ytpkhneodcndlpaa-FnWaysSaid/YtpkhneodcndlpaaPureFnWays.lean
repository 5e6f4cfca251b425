/- The pure statement of the law FnWays is proved: for every input that the law speaks of, the law's function answers true. No conditions beyond the statement's own. -/
import Derived.Test.YtpkhneodcndlpaaFFnWaysx
import Derived.Laws.Bits64b
namespace Go.Proofs.Ytpkhneodcndlpaa.Pure
open Go.RowKit Go.Proofs.Ytpkhneodcndlpaa.FFnWays Go.Proofs.YtpkhneodcndlpaaW.PrintWords Go.Proofs.YtpkhneodcndlpaaW.PrintLast
set_option linter.unusedVariables false

theorem b_wrap (x : Int) (h : -9223372036854775808 ≤ x) (h' : x ≤ 9223372036854775807) : wrap64 x = x := by
  unfold wrap64; omega

theorem b_rd (l : List Int) (i : Nat) (h : i < l.length) : rd l (i : Int) = l[i] := by
  unfold rd; rw [List.getD_eq_getElem?_getD, Int.toNat_natCast, List.getElem?_eq_getElem h]; rfl

theorem b_take (l : List Int) (i : Nat) (h : i < l.length) : l.take (i + 1) = l.take i ++ [l[i]] := by
  rw [List.take_succ_eq_append_getElem h]

theorem b_set (x : List Int) (i : Nat) (v : Int) (h : i < x.length) : (x.set i v).take (i + 1) = x.take i ++ [v] := by
  have h' : i < (x.set i v).length := by rw [List.length_set]; exact h
  rw [List.take_succ_eq_append_getElem h', List.getElem_set_self, List.take_set_of_le (Nat.le_refl i)]
theorem impl_inRange_t (a b c : Int) : impl_inRange.f a b c = some (decide (b ≤ a ∧ a ≤ c)) := by
  unfold impl_inRange.f
  by_cases h : b ≤ a
  · rw [if_pos h]; simp [h]
  · rw [if_neg h]; simp [h]
theorem spec_l00In_t (a b c : Int) : spec_l00In.f a b c = some (decide (b ≤ a ∧ a ≤ c)) := by
  unfold spec_l00In.f
  by_cases h : b ≤ a
  · rw [if_pos h]; simp [h]
  · rw [if_neg h]; simp [h]
theorem c_wrap (x : Int) (h : -9223372036854775808 ≤ x) (h' : x ≤ 9223372036854775807) : wrap64 x = x := by
  unfold wrap64; omega
/-- The fields of all cuts fit their kinds. -/
def Fit (l : List S50) : Prop := ∀ j : Nat, (-32768 ≤ (l.getD j z50).f0 ∧ (l.getD j z50).f0 ≤ 32767) ∧ (-32768 ≤ (l.getD j z50).f1 ∧ (l.getD j z50).f1 ≤ 32767) ∧ (-128 ≤ (l.getD j z50).f2 ∧ (l.getD j z50).f2 ≤ 127)
theorem rd50 (l : List S50) (i : Nat) : rd_T50 l (i : Int) = l.getD i z50 := by unfold rd_T50; rw [Int.toNat_natCast]
/-- A cut that is plain, with so many cutters. -/
def Pl (c : Int) (x : S50) : Prop := (0 ≤ x.f0 ∧ x.f0 ≤ 359) ∧ (0 ≤ x.f1 ∧ x.f1 ≤ 10000) ∧ (0 ≤ x.f2 ∧ x.f2 ≤ c - 1)

theorem plain_l (l : List S50) (hl : l.length ≤ 1048576) (hF : Fit l) (c : Int) (hc : 0 ≤ c ∧ c ≤ 1048576) (d : Nat) : ∀ (k i : Nat), l.length - i = d → d < k →
    ∃ r v, spec_l06Plain.l0 k l c (i : Int) = some r ∧ impl_Cut_c89_100.l0 k l (l.length : Int) (i : Int) [c] = some v ∧ (r = !(decide (v ≥ 0))) ∧ (r = true ↔ ∀ j, i ≤ j → j < l.length → Pl c (l.getD j z50)) := by
  induction d with
  | zero =>
    intro k i hd hk
    obtain ⟨k, rfl⟩ : ∃ m, k = m + 1 := ⟨k - 1, by omega⟩
    refine ⟨true, -1, ?_, ?_, by simp, ?_⟩
    · simp only [spec_l06Plain.l0]; rw [if_neg (by omega)]
    · simp only [impl_Cut_c89_100.l0]; rw [if_neg (by omega)]
    · simp only [true_iff]; intro j h1 h2; omega
  | succ d ih =>
    intro k i hd hk
    obtain ⟨k, rfl⟩ : ∃ m, k = m + 1 := ⟨k - 1, by omega⟩
    obtain ⟨b0, b1, b2⟩ := hF i
    have p1 : (i : Int) < (l.length : Int) := by omega
    have p2 : 0 ≤ (i : Int) := by omega
    have w : wrap64 ((i : Int) + 1) = ((i + 1 : Nat) : Int) := by rw [c_wrap _ (by omega) (by omega)]; omega
    simp only [spec_l06Plain.l0, impl_Cut_c89_100.l0, if_pos p1, if_pos p2, rd50, w]
    unfold spec_l01Lift.f impl_areCuts_1.f impl_isLift.f impl_isPlace.f
    rw [c_wrap _ (by omega) (by omega), c_wrap _ (by omega) (by omega), c_wrap _ (by omega) (by omega), c_wrap _ (by omega) (by omega)]
    rw [show wrap64 (rd [c] 0 - 1) = c - 1 from c_wrap _ (by unfold rd; simp; omega) (by unfold rd; simp; omega)]
    simp only [spec_l00In_t, impl_inRange_t, Option.bind_some]
    have stop : ∀ q : ¬ Pl c (l.getD i z50), ∃ r v, some false = some r ∧ some ((i : Nat) : Int) = some v ∧ (r = !(decide (v ≥ 0))) ∧ (r = true ↔ ∀ j, i ≤ j → j < l.length → Pl c (l.getD j z50)) := fun q =>
      ⟨false, i, rfl, rfl, by simp, ⟨(fun h => by cases h), fun h => absurd (h i (Nat.le_refl _) (by omega)) q⟩⟩
    by_cases c0 : 0 ≤ (l.getD i z50).f0 ∧ (l.getD i z50).f0 ≤ 359
    · by_cases c1 : 0 ≤ (l.getD i z50).f1 ∧ (l.getD i z50).f1 ≤ 10000
      · by_cases c2 : 0 ≤ (l.getD i z50).f2 ∧ (l.getD i z50).f2 ≤ c - 1
        · obtain ⟨r, v, h1, h2, h3, h4⟩ := ih k (i + 1) (by omega) (by omega)
          refine ⟨r, v, ?_, ?_, h3, ?_⟩
          · simp only [decide_eq_true c0, decide_eq_true c1, decide_eq_true c2, if_true]; exact h1
          · simp only [decide_eq_true c0, decide_eq_true c1, decide_eq_true c2, if_true, List.length_singleton, show (0 : Int) < ((1 : Nat) : Int) by omega, Option.bind_some, Bool.not_true, Bool.false_eq_true, if_false]; exact h2
          · rw [h4]
            refine ⟨fun h j q1 q2 => ?_, fun h j q1 q2 => h j (by omega) q2⟩
            by_cases e : j = i
            · subst e; exact ⟨c0, c1, c2⟩
            · exact h j (by omega) q2
        · have := stop (fun q => c2 q.2.2)
          simpa only [decide_eq_true c0, decide_eq_true c1, decide_eq_false c2, if_true, Bool.false_eq_true, if_false, List.length_singleton, show (0 : Int) < ((1 : Nat) : Int) by omega, Option.bind_some, Bool.not_false] using this
      · have := stop (fun q => c1 q.2.1)
        simpa only [decide_eq_true c0, decide_eq_false c1, if_true, Bool.false_eq_true, if_false, Option.bind_some] using this
    · have := stop (fun q => c0 q.1)
      simpa only [decide_eq_false c0, if_true, Bool.false_eq_true, if_false, Option.bind_some] using this

theorem plain_t (l : List S50) (hl : l.length ≤ 1048576) (hF : Fit l) (c : Int) (hc : 0 ≤ c ∧ c ≤ 1048576) : ∃ b : Bool, (b = true ↔ l.length ≤ 400 ∧ ∀ j, j < l.length → Pl c (l.getD j z50)) ∧ ∀ k, l.length < k → spec_l06Plain.f k l c = some b ∧ impl_areCuts.f k l c = some b := by
  by_cases h : l.length ≤ 400
  · obtain ⟨r, v, h1, h2, h3, h4⟩ := plain_l l hl hF c hc l.length (l.length + 1) 0 (by omega) (by omega)
    refine ⟨r, ?_, fun k hk => ?_⟩
    · rw [h4]; exact ⟨fun q => ⟨h, fun j hj => q j (by omega) hj⟩, fun q j _ hj => q.2 j hj⟩
    · have h1' := at_rounds (fun k => (spec_l06Plain.mono_l k) l c ((0 : Nat) : Int)) (show l.length + 1 ≤ k by omega) h1
      have h2' := at_rounds (fun k => (impl_Cut_c89_100.mono_l k) l (l.length : Int) ((0 : Nat) : Int) [c]) (show l.length + 1 ≤ k by omega) h2
      constructor
      · unfold spec_l06Plain.f; rw [if_neg (by omega)]; exact h1'
      · unfold impl_areCuts.f impl_Cut_c89_88.f impl_Cut_c89_100.f
        rw [if_pos (by omega), show (0 : Int) = ((0 : Nat) : Int) from rfl, h2']
        simp only [Option.bind_some]; rw [h3]; simp
  · refine ⟨false, ⟨(fun q => by cases q), fun q => absurd q.1 h⟩, fun k hk => ⟨?_, ?_⟩⟩
    · unfold spec_l06Plain.f; rw [if_pos (by omega)]
    · unfold impl_areCuts.f; rw [if_neg (by omega)]
theorem on_l (l : List S50) (hl : l.length ≤ 1048576) (hF : Fit l) (c : Int) (d : Nat) : ∀ (k i : Nat), l.length - i = d → d < k →
    ∃ r v, spec_l06On.l0 k l c (i : Int) = some r ∧ impl_Cut_c97_100.l0 k l (l.length : Int) (i : Int) [c] = some v ∧ (r = !(decide (v ≥ 0))) ∧ (r = true ↔ ∀ j, i ≤ j → j < l.length → (l.getD j z50).f0 < c) := by
  induction d with
  | zero =>
    intro k i hd hk
    obtain ⟨k, rfl⟩ : ∃ m, k = m + 1 := ⟨k - 1, by omega⟩
    refine ⟨true, -1, ?_, ?_, by simp, ?_⟩
    · simp only [spec_l06On.l0]; rw [if_neg (by omega)]
    · simp only [impl_Cut_c97_100.l0]; rw [if_neg (by omega)]
    · simp only [true_iff]; intro j h1 h2; omega
  | succ d ih =>
    intro k i hd hk
    obtain ⟨k, rfl⟩ : ∃ m, k = m + 1 := ⟨k - 1, by omega⟩
    obtain ⟨b0, b1, b2⟩ := hF i
    have p1 : (i : Int) < (l.length : Int) := by omega
    have p2 : 0 ≤ (i : Int) := by omega
    have w : wrap64 ((i : Int) + 1) = ((i + 1 : Nat) : Int) := by rw [c_wrap _ (by omega) (by omega)]; omega
    have e1 : rd [c] 0 = c := by unfold rd; simp
    simp only [spec_l06On.l0, impl_Cut_c97_100.l0, if_pos p1, if_pos p2, rd50, w]
    unfold impl_areOn_1.f
    simp only [List.length_singleton, show (0 : Int) < ((1 : Nat) : Int) by omega, if_true, e1, Option.bind_some]
    rw [c_wrap _ (by omega) (by omega)]
    by_cases q : (l.getD i z50).f0 ≥ c
    · refine ⟨false, i, by rw [if_pos q], by rw [if_pos (decide_eq_true q)], by simp, ⟨(fun h => by cases h), fun h => absurd (h i (Nat.le_refl _) (by omega)) (by omega)⟩⟩
    · obtain ⟨r, v, h1, h2, h3, h4⟩ := ih k (i + 1) (by omega) (by omega)
      refine ⟨r, v, by rw [if_neg q]; exact h1, by rw [if_neg (by simpa using q)]; exact h2, h3, ?_⟩
      rw [h4]
      refine ⟨fun h j q1 q2 => ?_, fun h j q1 q2 => h j (by omega) q2⟩
      by_cases e : j = i
      · subst e; omega
      · exact h j (by omega) q2

theorem on_t (l : List S50) (hl : l.length ≤ 1048576) (hF : Fit l) (c : Int) : ∃ b : Bool, (b = true ↔ ∀ j, j < l.length → (l.getD j z50).f0 < c) ∧ ∀ k, l.length < k → spec_l06On.f k l c = some b ∧ impl_areOn.f k l c = some b := by
  obtain ⟨r, v, h1, h2, h3, h4⟩ := on_l l hl hF c l.length (l.length + 1) 0 (by omega) (by omega)
  refine ⟨r, ?_, fun k hk => ?_⟩
  · rw [h4]; exact ⟨fun q j hj => q j (by omega) hj, fun q j _ hj => q j hj⟩
  · have h1' := at_rounds (fun k => (spec_l06On.mono_l k) l c ((0 : Nat) : Int)) (show l.length + 1 ≤ k by omega) h1
    have h2' := at_rounds (fun k => (impl_Cut_c97_100.mono_l k) l (l.length : Int) ((0 : Nat) : Int) [c]) (show l.length + 1 ≤ k by omega) h2
    constructor
    · unfold spec_l06On.f; exact h1'
    · unfold impl_areOn.f impl_Cut_c97_88.f impl_Cut_c97_100.f
      rw [show (0 : Int) = ((0 : Nat) : Int) from rfl, h2']
      simp only [Option.bind_some]; rw [h3]; simp

theorem first_t (a b : Int) (k : Nat) (hk : 3 ≤ k) : impl_firstCode.f k [a, b] = some (if a = 0 then b else a) := by
  obtain ⟨k, rfl⟩ : ∃ m, k = m + 3 := ⟨k - 3, by omega⟩
  unfold impl_firstCode.f
  simp only [impl_firstCode.l0, List.length_cons, List.length_nil, show ((0 + 1 + 1 : Nat) : Int) = 2 from rfl, show (0 : Int) < 2 by omega, show (0 : Int) ≤ 0 by omega, show wrap64 (0 + 1) = 1 by unfold wrap64; omega, show (1 : Int) < 2 by omega, show (0 : Int) ≤ 1 by omega, show wrap64 (1 + 1) = 2 by unfold wrap64; omega, show ¬ ((2 : Int) < 2) by omega, if_true, if_false, rd, show (0 : Int).toNat = 0 from rfl, show (1 : Int).toNat = 1 from rfl, List.getD_cons_zero, List.getD_cons_succ]
  by_cases h : a = 0
  · rw [if_pos h, if_pos h]
    by_cases h2 : b = 0
    · rw [if_pos h2, h2]
    · rw [if_neg h2]
  · rw [if_neg h, if_neg h]

/-- The code of cuts without cutters is the same on both sides. -/
theorem code_t (a : Int) (l : List S50) (hl : l.length ≤ 1048576) (hF : Fit l) : ∃ c : Int, (c = 0 → (8 ≤ a ∧ a ≤ 360) ∧ l.length ≤ 400 ∧ (∀ j, j < l.length → Pl 8 (l.getD j z50)) ∧ ∀ j, j < l.length → (l.getD j z50).f0 < a) ∧
    ((8 ≤ a ∧ a ≤ 360) → l.length ≤ 400 → (∀ j, j < l.length → Pl 8 (l.getD j z50)) → (∀ j, j < l.length → (l.getD j z50).f0 < a) → c = 0) ∧
    ∀ k, l.length + 4 < k → spec_l06Round.f k a l = some c ∧ impl_wayCode.f k a l = some c := by
  obtain ⟨b1, i1, h1⟩ := plain_t l hl hF 8 (by omega)
  obtain ⟨b2, i2, h2⟩ := on_t l hl hF a
  refine ⟨if b1 = true then (if 8 ≤ a ∧ a ≤ 360 then (if b2 = true then 0 else 2) else 2) else 1, ?_, ?_, fun k hk => ?_⟩
  · intro h
    by_cases q1 : b1 = true
    · rw [if_pos q1] at h
      by_cases q2 : 8 ≤ a ∧ a ≤ 360
      · rw [if_pos q2] at h
        by_cases q3 : b2 = true
        · exact ⟨q2, (i1.1 q1).1, (i1.1 q1).2, i2.1 q3⟩
        · rw [if_neg q3] at h; omega
      · rw [if_neg q2] at h; omega
    · rw [if_neg q1] at h; omega
  · intro q1 q2 q3 q4
    rw [if_pos (i1.2 ⟨q2, q3⟩), if_pos q1, if_pos (i2.2 q4)]
  · obtain ⟨s1, m1⟩ := h1 k (by omega)
    obtain ⟨s2, m2⟩ := h2 k (by omega)
    constructor
    · unfold spec_l06Round.f spec_l01Steps.f
      rw [s1, s2, spec_l00In_t]
      simp only [Option.bind_some]
      cases b1 with
      | false => simp
      | true =>
        by_cases q : 8 ≤ a ∧ a ≤ 360
        · cases b2 <;> simp [q]
        · simp [q]
    · unfold impl_wayCode.f impl_codeIf.f impl_isSteps.f
      rw [m1, m2, impl_inRange_t]
      simp only [Option.bind_some]
      by_cases q : 8 ≤ a ∧ a ≤ 360
      · cases b1 <;> cases b2 <;> simp [q, first_t _ _ k (by omega)]
      · cases b1 <;> simp [q, first_t _ _ k (by omega)]

/-- The distance of two steps. -/
def far (a x y : Int) : Int := if (if x - y < 0 then y - x else x - y) < a - (if x - y < 0 then y - x else x - y) then (if x - y < 0 then y - x else x - y) else a - (if x - y < 0 then y - x else x - y)
theorem far_s (a x0 x1 x2 y0 y1 y2 : Int) (hx : -32768 ≤ x0 ∧ x0 ≤ 32767) (hy : -32768 ≤ y0 ∧ y0 ≤ 32767) (ha : 0 ≤ a ∧ a ≤ 1048576) : spec_l06Far.f a x0 x1 x2 y0 y1 y2 = some (far a x0 y0) := by
  unfold spec_l06Far.f spec_l01Size.f spec_l00Min.f far
  rw [c_wrap x0 (by omega) (by omega), c_wrap y0 (by omega) (by omega), c_wrap (x0 - y0) (by omega) (by omega)]
  by_cases h : x0 - y0 < 0
  · rw [if_pos h, c_wrap (-(x0 - y0)) (by omega) (by omega)]
    simp only [Option.bind_some, if_pos h]
    rw [c_wrap _ (by omega) (by omega), show -(x0 - y0) = y0 - x0 by omega]
    split <;> rfl
  · simp only [Option.bind_some, if_neg h]
    rw [c_wrap _ (by omega) (by omega)]
    split <;> rfl
theorem far_i (a x0 x1 x2 y0 y1 y2 : Int) (hx : -32768 ≤ x0 ∧ x0 ≤ 32767) (hy : -32768 ≤ y0 ∧ y0 ≤ 32767) (ha : 0 ≤ a ∧ a ≤ 1048576) : impl_apart.f x0 x1 x2 y0 y1 y2 a = some (far a x0 y0) := by
  unfold impl_apart.f impl_abs.f far
  rw [c_wrap x0 (by omega) (by omega), c_wrap y0 (by omega) (by omega), c_wrap (x0 - y0) (by omega) (by omega), c_wrap (-(x0 - y0)) (by omega) (by omega)]
  simp only [Option.bind_some]
  rw [c_wrap (a - mx (x0 - y0) (-(x0 - y0))) (by unfold mx; split <;> omega) (by unfold mx; split <;> omega)]
  congr 1
  unfold mn mx
  repeat' split
  all_goals omega
set_option linter.unusedSectionVars false
theorem far_pos (a x y : Int) (hx : 0 ≤ x ∧ x < a) (hy : 0 ≤ y ∧ y < a) : 0 ≤ far a x y := by
  unfold far; repeat' split
  all_goals omega
theorem far_self (a x : Int) (ha : 0 ≤ a) : far a x x = 0 := by
  unfold far; repeat' split
  all_goals omega
/-- How many are true. -/
def cnt : List Bool → Nat
  | [] => 0
  | b :: l => (if b = true then 1 else 0) + cnt l
theorem cnt_lt : ∀ l : List Bool, cnt l < l.length → ∃ i, i < l.length ∧ l.getD i false = false
  | [], h => by simp at h
  | b :: l, h => by
    cases b with
    | false => exact ⟨0, by simp, by simp⟩
    | true =>
      simp only [cnt, if_true, List.length_cons] at h
      obtain ⟨i, h1, h2⟩ := cnt_lt l (by omega)
      exact ⟨i + 1, by simp; omega, by simpa using h2⟩
theorem cnt_set : ∀ (l : List Bool) (i : Nat), i < l.length → l.getD i false = false → cnt (l.set i true) = cnt l + 1
  | [], i, h, _ => by simp at h
  | b :: l, 0, _, h2 => by
    have : b = false := by simpa using h2
    subst this
    simp [cnt]; omega
  | b :: l, i + 1, h, h2 => by
    have := cnt_set l i (by simpa using h) (by simpa using h2)
    simp only [List.set_cons_succ, cnt, this]; omega
theorem cnt_rep (n : Nat) : cnt (List.replicate n false) = 0 := by
  induction n with
  | zero => rfl
  | succ n ih => simp [List.replicate_succ, cnt, ih]

/-- The lift.. the step of cut i. -/
def st (l : List S50) (i : Nat) : Int := (l.getD i z50).f0
/-- Which cut is picked among those from i on, d of them, where 'at' is the best so far (-1: none). -/
def pick (a : Int) (l : List S50) (done : List Bool) (last : Nat) : Nat → Nat → Int → Int
  | 0, _, q => q
  | d + 1, i, q => pick a l done last d (i + 1) (if done.getD i false = true then q else if q < 0 then (i : Int) else if far a (st l last) (st l i) < far a (st l last) (st l q.toNat) then (i : Int) else q)
def Good (l : List S50) (done : List Bool) (q : Int) : Prop := q = -1 ∨ (0 ≤ q ∧ q < (l.length : Int) ∧ done.getD q.toNat false = false)
theorem good_step (a : Int) (l : List S50) (done : List Bool) (last i : Nat) (q : Int) (hi : i < l.length) (h : Good l done q) :
    Good l done (if done.getD i false = true then q else if q < 0 then (i : Int) else if far a (st l last) (st l i) < far a (st l last) (st l q.toNat) then (i : Int) else q) := by
  split
  · exact h
  · rename_i hd
    have hi' : Good l done (i : Int) := .inr ⟨by omega, by omega, by rw [Int.toNat_natCast]; simpa using hd⟩
    split
    · exact hi'
    · split
      · exact hi'
      · exact h
theorem pick_good (a : Int) (l : List S50) (done : List Bool) (last : Nat) (d : Nat) : ∀ (i : Nat) (q : Int), l.length - i = d → Good l done q → Good l done (pick a l done last d i q) := by
  induction d with
  | zero => exact fun i q _ h => h
  | succ d ih => exact fun i q hd h => ih (i + 1) _ (by omega) (good_step a l done last i q (by omega) h)
theorem pick_some (a : Int) (l : List S50) (done : List Bool) (last : Nat) (d : Nat) : ∀ (i : Nat) (q : Int), l.length - i = d → Good l done q → (0 ≤ q ∨ ∃ j, i ≤ j ∧ j < l.length ∧ done.getD j false = false) → 0 ≤ pick a l done last d i q := by
  induction d with
  | zero =>
    intro i q hd _ h
    rcases h with h | ⟨j, h1, h2, _⟩
    · exact h
    · omega
  | succ d ih =>
    intro i q hd hg h
    have e1 : l.length - (i + 1) = d := by clear h; omega
    have e2 : i < l.length := by clear h; omega
    refine ih (i + 1) _ e1 (good_step a l done last i q e2 hg) ?_
    by_cases hq : 0 ≤ q
    · refine .inl ?_
      repeat' split
      all_goals omega
    · rcases h with h | ⟨j, h1, h2, h3⟩
      · exact absurd h hq
      · by_cases e : j = i
        · subst e
          refine .inl ?_
          rw [if_neg (by rw [h3]; simp), if_pos (by omega)]; omega
        · exact .inr ⟨j, by omega, h2, h3⟩

theorem rdB (x : List Bool) (i : Nat) : rdOf false x (i : Int) = x.getD i false := by unfold rdOf; rw [Int.toNat_natCast]
theorem rdI (x : List Int) (i : Nat) : rd x (i : Int) = x.getD i 0 := by unfold rd; rw [Int.toNat_natCast]
theorem natOf (q : Int) (h : 0 ≤ q) : q = ((q.toNat : Nat) : Int) := by omega

section
variable (a : Int) (ha : 0 ≤ a ∧ a ≤ 1048576) (l : List S50) (hl : l.length ≤ 1048576) (hF : Fit l)
include ha hl hF

/-- The reference's inner loop. -/
theorem inner_s (out : List Int) (done : List Bool) (hdn : done.length = l.length) (sum : Int) (last : Nat) (hlast : last < l.length) (d : Nat) : ∀ (i k : Nat) (q : Int), l.length - i = d → i ≤ l.length → Good l done q →
    spec_NearOrder.l1 (d + k) a l out done sum (last : Int) q (i : Int) = spec_NearOrder.l1 k a l out done sum (last : Int) (pick a l done last d i q) (l.length : Int) := by
  induction d with
  | zero =>
    intro i k q hd hi hg
    have : i = l.length := by omega
    rw [this, Nat.zero_add]; rfl
  | succ d ih =>
    intro i k q hd hi hg
    have hil : i < l.length := by omega
    have p1 : (i : Int) < (l.length : Int) := by omega
    have p2 : (0 : Int) ≤ (i : Int) := by omega
    have p3 : (i : Int) < (done.length : Int) := by omega
    have w : wrap64 ((i : Int) + 1) = ((i + 1 : Nat) : Int) := by rw [c_wrap _ (by omega) (by omega)]; omega
    have hg2 := good_step a l done last i q hil hg
    have nx := ih (i + 1) k _ (by omega) (by omega) hg2
    show _ = spec_NearOrder.l1 k a l out done sum (last : Int) (pick a l done last d (i + 1) _) (l.length : Int)
    rw [← nx, show d + 1 + k = (d + k) + 1 by omega]
    simp only [spec_NearOrder.l1, if_pos p1, if_pos p2, if_pos p3, rdB, w]
    by_cases c1 : done.getD i false = true
    · rw [if_pos c1, if_pos c1]
    · rw [if_neg c1, if_neg c1]
      by_cases c2 : q < 0
      · rw [if_pos c2, if_pos c2]
      · rw [if_neg c2, if_neg c2]
        rcases hg with hg | ⟨g0, g1, _⟩
        · omega
        · have q1 : (0 : Int) ≤ (last : Int) := by omega
          have q2 : (last : Int) < (l.length : Int) := by omega
          have e1 : rd_T50 l q = l.getD q.toNat z50 := rfl
          simp only [if_pos q1, if_pos q2, if_pos g0, if_pos g1, rd50, e1, far_s a _ _ _ _ _ _ (hF last).1 (hF i).1 ha, far_s a _ _ _ _ _ _ (hF last).1 (hF q.toNat).1 ha, Option.bind_some]
          by_cases c3 : far a (st l last) (st l i) < far a (st l last) (st l q.toNat)
          · rw [if_pos c3]; exact if_pos c3
          · rw [if_neg c3]; exact if_neg c3

/-- The program's inner loop behind the first cut. -/
theorem inner_i (out : List Int) (hout : 0 < out.length) (hol : out.length ≤ 1048576) (last : Nat) (hlast : last < l.length) (hlo : out.getD (out.length - 1) 0 = (last : Int)) (hpos : ∀ j, j < l.length → 0 ≤ st l j ∧ st l j < a) (done : List Bool) (hdn : done.length = l.length) (way z x : Int) (d : Nat) : ∀ (i k : Nat) (q : Int), l.length - i = d → i ≤ l.length → Good l done q →
    impl_NearOrder.l1 (d + k) a l out way done (if q < 0 then 0 else q) (if q < 0 then -1 else far a (st l last) (st l q.toNat)) z x l (l.length : Int) (i : Int) =
      impl_NearOrder.l1 k a l out way done (if pick a l done last d i q < 0 then 0 else pick a l done last d i q) (if pick a l done last d i q < 0 then -1 else far a (st l last) (st l (pick a l done last d i q).toNat)) z x l (l.length : Int) (l.length : Int) := by
  induction d with
  | zero =>
    intro i k q hd hi hg
    have : i = l.length := by omega
    rw [this, Nat.zero_add]; rfl
  | succ d ih =>
    intro i k q hd hi hg
    have hil : i < l.length := by omega
    have p1 : (i : Int) < (l.length : Int) := by omega
    have p2 : (0 : Int) ≤ (i : Int) := by omega
    have p3 : (i : Int) < (done.length : Int) := by omega
    have p4 : (out.length : Int) > 0 := by omega
    have w : wrap64 ((i : Int) + 1) = ((i + 1 : Nat) : Int) := by rw [c_wrap _ (by omega) (by omega)]; omega
    have w1 : wrap64 ((out.length : Int) - 1) = ((out.length - 1 : Nat) : Int) := by rw [c_wrap _ (by omega) (by omega)]; omega
    have p5 : (0 : Int) ≤ ((out.length - 1 : Nat) : Int) := by omega
    have p6 : ((out.length - 1 : Nat) : Int) < (out.length : Int) := by omega
    have q1 : (0 : Int) ≤ (last : Int) := by omega
    have q2 : (last : Int) < (l.length : Int) := by omega
    have hg2 := good_step a l done last i q hil hg
    have nx := ih (i + 1) k _ (by omega) (by omega) hg2
    show _ = impl_NearOrder.l1 k a l out way done (if pick a l done last d (i + 1) _ < 0 then 0 else pick a l done last d (i + 1) _) (if pick a l done last d (i + 1) _ < 0 then -1 else far a (st l last) (st l (pick a l done last d (i + 1) _).toNat)) z x l (l.length : Int) (l.length : Int)
    rw [← nx, show d + 1 + k = (d + k) + 1 by omega]
    simp only [impl_NearOrder.l1, if_pos p1, if_pos p2, if_pos p3, if_pos p4, rdB, w, w1, if_pos p5, if_pos p6, rdI, hlo, if_pos q1, if_pos q2, rd50, far_i a _ _ _ _ _ _ (hF last).1 (hF i).1 ha, Option.bind_some]
    have n0 : ¬ ((i : Int) < 0) := by omega
    have fi := far_pos a _ _ (hpos last hlast) (hpos i hil)
    by_cases c1 : done.getD i false = true
    · simp only [if_pos c1]
    · simp only [if_neg c1]
      by_cases c2 : q < 0
      · simp only [if_pos c2, show (-1 : Int) < 0 by omega, if_true, if_neg n0, Int.toNat_natCast]; rfl
      · rcases hg with hg | ⟨g0, g1, _⟩
        · omega
        · have fq := far_pos a _ _ (hpos last hlast) (hpos q.toNat (by omega))
          have c4 : ¬ far a (st l last) (st l q.toNat) < 0 := by omega
          simp only [if_neg c2, if_neg c4]
          by_cases c3 : far a (st l last) (st l i) < far a (st l last) (st l q.toNat)
          · rw [if_pos c3, if_neg n0, Int.toNat_natCast]; exact if_pos c3
          · rw [if_neg c3, if_neg c2, if_neg c2]; exact if_neg c3

/-- The program's inner loop at the first cut: the first one is the best. -/
theorem inner_0 (done : List Bool) (hdn : done.length = l.length) (way z x : Int) (d : Nat) : ∀ (i k : Nat), l.length - i = d → i ≤ l.length →
    impl_NearOrder.l1 (d + k) a l [] way done 0 0 z x l (l.length : Int) (i : Int) = impl_NearOrder.l1 k a l [] way done 0 0 z x l (l.length : Int) (l.length : Int) := by
  induction d with
  | zero =>
    intro i k hd hi
    have : i = l.length := by omega
    rw [this, Nat.zero_add]
  | succ d ih =>
    intro i k hd hi
    have p1 : (i : Int) < (l.length : Int) := by omega
    have p2 : (0 : Int) ≤ (i : Int) := by omega
    have p3 : (i : Int) < (done.length : Int) := by omega
    have w : wrap64 ((i : Int) + 1) = ((i + 1 : Nat) : Int) := by rw [c_wrap _ (by omega) (by omega)]; omega
    rw [← ih (i + 1) k (by omega) (by omega), show d + 1 + k = (d + k) + 1 by omega]
    simp only [impl_NearOrder.l1, if_pos p1, if_pos p2, if_pos p3, w, List.length_nil, show ¬ (((0 : Nat) : Int) > 0) by omega, if_false, show ¬ ((0 : Int) < 0) by omega]
    split <;> rfl

omit ha hl hF in
/-- The way of the first m of some steps. -/
def wayN (f : Nat → Int) (a : Int) : Nat → Int
  | 0 => 0
  | m + 1 => wayN f a m + (if m = 0 then 0 else far a (f (m - 1)) (f m))
omit ha hl hF in
theorem wayN_congr (f g : Nat → Int) (a : Int) (m : Nat) (h : ∀ j, j < m → f j = g j) : wayN f a m = wayN g a m := by
  induction m with
  | zero => rfl
  | succ m ih =>
    rw [wayN, wayN, ih (fun j hj => h j (by omega)), h m (by omega)]
    by_cases e : m = 0
    · rw [if_pos e, if_pos e]
    · rw [if_neg e, if_neg e, h (m - 1) (by omega)]
/-- What is known of an order that is under way. -/
structure Way (out : List Int) (done : List Bool) (sum : Int) (last : Nat) : Prop where
  dlen : done.length = l.length
  olen : out.length = cnt done
  lastlt : 0 < l.length → last < l.length
  lastof : 0 < out.length → out.getD (out.length - 1) 0 = (last : Int)
  none0 : out = [] → last = 0 ∧ sum = 0 ∧ ∀ j, done.getD j false = false
  inr : ∀ j, j < out.length → 0 ≤ out.getD j 0 ∧ out.getD j 0 < (l.length : Int)
  mem : ∀ j : Nat, j < l.length → (done.getD j false = true ↔ ∃ i, i < out.length ∧ out.getD i 0 = (j : Int))
  dist : ∀ i j, i < j → j < out.length → out.getD i 0 ≠ out.getD j 0
  first : 0 < out.length → out.getD 0 0 = 0
  bound : 0 ≤ sum ∧ sum ≤ a * out.length
  sumof : sum = wayN (fun j => st l (out.getD j 0).toNat) a out.length
omit ha hl hF in
theorem getD_snoc (o : List Int) (b : Int) (j : Nat) : (o ++ [b]).getD j 0 = if j < o.length then o.getD j 0 else if j = o.length then b else 0 := by
  by_cases h : j < o.length
  · rw [if_pos h, List.getD_eq_getElem?_getD, List.getElem?_append_left h, ← List.getD_eq_getElem?_getD]
  · rw [if_neg h, List.getD_eq_getElem?_getD, List.getElem?_append_right (by omega)]
    by_cases e : j = o.length
    · subst e; simp
    · rw [if_neg e, List.getElem?_eq_none (by simp; omega)]; rfl
omit ha hl hF in
theorem getD_setB (x : List Bool) (b j : Nat) (hb : b < x.length) : (x.set b true).getD j false = if j = b then true else x.getD j false := by
  by_cases e : j = b
  · subst e; rw [if_pos rfl, List.getD_eq_getElem?_getD, List.getElem?_set_self hb]; rfl
  · rw [if_neg e, List.getD_eq_getElem?_getD, List.getElem?_set_ne (by omega), ← List.getD_eq_getElem?_getD]
omit hl hF in
theorem far_le (x y : Int) (hx : 0 ≤ x ∧ x < a) (hy : 0 ≤ y ∧ y < a) : far a x y ≤ a := by
  unfold far; repeat' split
  all_goals omega

/-- One round of both sides. -/
theorem round_t (hpos : ∀ j, j < l.length → 0 ≤ st l j ∧ st l j < a) (out : List Int) (done : List Bool) (sum : Int) (last : Nat) (h : Way a l out done sum last) (hlt : out.length < l.length) :
    ∃ b : Nat, Way a l (out ++ [(b : Int)]) (done.set b true) (sum + (if out = [] then 0 else far a (st l last) (st l b))) b ∧
      (∀ m, spec_NearOrder.l0 (l.length + 2 + m) a l out done sum (last : Int) = spec_NearOrder.l0 m a l (out ++ [(b : Int)]) (done.set b true) (sum + (if out = [] then 0 else far a (st l last) (st l b))) (b : Int)) ∧
      (∀ m, impl_NearOrder.l0 (l.length + 2 + m) a l out sum done (l.length : Int) (out.length : Int) = impl_NearOrder.l0 m a l (out ++ [(b : Int)]) (sum + (if out = [] then 0 else far a (st l last) (st l b))) (done.set b true) (l.length : Int) ((out ++ [(b : Int)]).length : Int)) := by
  have hll := h.lastlt (by omega)
  have hol : out.length ≤ 1048576 := by omega
  have hsl : a * (out.length : Int) ≤ 1048576 * 1048576 := Int.mul_le_mul ha.2 (by omega) (by omega) (by omega)
  have hsum := h.bound
  have cond1 : (out.length : Int) < (l.length : Int) := by omega
  have lim : out.length < 17592186044416 := by omega
  have w2 : wrap64 ((out.length : Int) + 1) = ((out.length + 1 : Nat) : Int) := by rw [c_wrap _ (by omega) (by omega)]; omega
  have key : ∀ b : Nat, b < l.length → done.getD b false = false → (out = [] → b = 0) → Way a l (out ++ [(b : Int)]) (done.set b true) (sum + (if out = [] then 0 else far a (st l last) (st l b))) b := by
    intro b hb hfree h0
    have hf1 := far_pos a _ _ (hpos last hll) (hpos b hb)
    have hf2 := far_le a ha _ _ (hpos last hll) (hpos b hb)
    have hnot : ∀ i, i < out.length → out.getD i 0 ≠ (b : Int) := fun i hi e => by
      have := (h.mem b hb).2 ⟨i, hi, e⟩
      rw [hfree] at this; cases this
    refine ⟨by simpa using h.dlen, ?_, fun _ => hb, fun _ => ?_, fun e => by simp at e, ?_, ?_, ?_, ?_, ?_, ?_⟩
    · rw [cnt_set done b (by rw [h.dlen]; exact hb) hfree, List.length_append, h.olen]; rfl
    · rw [getD_snoc]; simp
    · intro j hj
      rw [getD_snoc]
      split
      · rename_i hj'; exact h.inr j hj'
      · simp at hj; rw [if_pos (by omega)]; omega
    · intro j hj
      rw [getD_setB done b j (by rw [h.dlen]; exact hb)]
      by_cases e : j = b
      · subst e
        rw [if_pos rfl]
        exact ⟨fun _ => ⟨out.length, by simp, by rw [getD_snoc]; simp⟩, fun _ => rfl⟩
      · rw [if_neg e, h.mem j hj]
        constructor
        · rintro ⟨i, hi, hi2⟩
          exact ⟨i, by simp; omega, by rw [getD_snoc, if_pos hi]; exact hi2⟩
        · rintro ⟨i, hi, hi2⟩
          rw [getD_snoc] at hi2
          split at hi2
          · rename_i hi'; exact ⟨i, hi', hi2⟩
          · simp at hi; rw [if_pos (by omega)] at hi2; omega
    · intro i j hij hj
      rw [getD_snoc, getD_snoc]
      simp at hj
      rw [if_pos (show i < out.length by omega)]
      split
      · rename_i hj'; exact h.dist i j hij hj'
      · rw [if_pos (by omega)]; exact hnot i (by omega)
    · intro _
      rw [getD_snoc]
      split
      · rename_i h0'; exact h.first h0'
      · have : out = [] := List.eq_nil_of_length_eq_zero (by omega)
        rw [if_pos (by omega), h0 this]; rfl
    · rw [List.length_append, List.length_singleton, show (((out.length + 1 : Nat)) : Int) = (out.length : Int) + 1 by omega, Int.mul_add]
      split <;> omega
    · rw [List.length_append, List.length_singleton, wayN]
      rw [wayN_congr (fun j => st l ((out ++ [(b : Int)]).getD j 0).toNat) (fun j => st l (out.getD j 0).toNat) a out.length (fun j hj => by show st l _ = st l _; rw [getD_snoc, if_pos hj]), ← h.sumof]
      congr 1
      by_cases e : out = []
      · rw [if_pos e, if_pos (by rw [e]; rfl)]
      · have hop : 0 < out.length := by
          rcases Nat.eq_zero_or_pos out.length with h' | h'
          · exact absurd (List.eq_nil_of_length_eq_zero h') e
          · exact h'
        rw [if_neg e, if_neg (by omega)]
        show _ = far a (st l ((out ++ [(b : Int)]).getD (out.length - 1) 0).toNat) (st l ((out ++ [(b : Int)]).getD out.length 0).toNat)
        rw [getD_snoc, getD_snoc, if_pos (by omega), if_neg (by omega), if_pos rfl, h.lastof hop, Int.toNat_natCast, Int.toNat_natCast]
  by_cases e : out = []
  · obtain ⟨e1, e2, e3⟩ := h.none0 e
    subst e1; subst e2
    refine ⟨0, ?_, ?_, ?_⟩
    · exact key 0 (by omega) (e3 0) (fun _ => rfl)
    · intro m
      subst e
      have i0 := inner_s a ha l hl hF [] done h.dlen 0 0 hll l.length 0 (m + 1) (-1) (by omega) (by omega) (.inl rfl)
      rw [show l.length + 2 + m = (l.length + (m + 1)) + 1 by omega]
      simp only [spec_NearOrder.l0, if_pos cond1]
      rw [show spec_NearOrder.l1 (l.length + (m + 1)) a l [] done 0 ((0 : Nat) : Int) (-1) 0 = _ from i0]
      have n1 : ¬ ((l.length : Int) < (l.length : Int)) := by omega
      have n2 : (0 : Int) < (l.length : Int) := by omega
      have n3 : (0 : Int) < (done.length : Int) := by rw [h.dlen]; omega
      simp only [spec_NearOrder.l1, if_neg n1, List.length_nil, show (((0 : Nat)) : Int) = 0 from rfl, if_true, show (0 : Int) ≤ 0 by omega, if_pos n2, far_s a _ _ _ _ _ _ (hF ((0 : Int).toNat)).1 (hF ((0 : Int).toNat)).1 ha, Option.bind_some, if_pos n3, show (0 : Nat) < 17592186044416 by omega, rd_T50, List.nil_append]
      rw [far_self a _ ha.1, show wrap64 ((0 : Int) + 0) = 0 + 0 by unfold wrap64; omega]; rfl
    · intro m
      subst e
      have z1 : (0 : Int) < (l.length : Int) := by omega
      have z2 : (0 : Int) < (done.length : Int) := by rw [h.dlen]; omega
      have d0 : done.getD 0 false = false := e3 0
      obtain ⟨n, hn⟩ : ∃ n, l.length = n + 1 := ⟨l.length - 1, by omega⟩
      have i1 := inner_0 a ha l hl hF done h.dlen 0 (l.length : Int) 0 n 1 (m + 1) (by omega) (by omega)
      have n1 : ¬ ((l.length : Int) < (l.length : Int)) := by omega
      have w1 : wrap64 ((0 : Int) + 1) = ((1 : Nat) : Int) := by unfold wrap64; omega
      have rb : rdOf false done 0 = false := d0
      rw [show l.length + 2 + m = ((n + (m + 1)) + 1) + 1 by omega]
      simp only [impl_NearOrder.l0, List.length_nil, show (((0 : Nat)) : Int) = 0 from rfl, if_pos z1]
      rw [show impl_NearOrder.l1 (n + (m + 1) + 1) a l [] 0 done 0 (-1) (l.length : Int) 0 l (l.length : Int) 0 = impl_NearOrder.l1 (n + (m + 1)) a l [] 0 done 0 0 (l.length : Int) 0 l (l.length : Int) ((1 : Nat) : Int) by
        simp only [impl_NearOrder.l1, if_pos z1, show (0 : Int) ≤ 0 by omega, if_true, List.length_nil, show ¬ (((0 : Nat) : Int) > 0) by omega, if_false, if_pos z2, rb, Bool.false_eq_true, show (-1 : Int) < 0 by omega, w1]]
      rw [i1]
      simp only [impl_NearOrder.l1, if_neg n1, List.length_nil, show (0 : Nat) < 17592186044416 by omega, if_true, show (0 : Int) ≤ 0 by omega, if_pos z2, List.nil_append, List.length_singleton, w1]
      rw [show wrap64 ((0 : Int) + 0) = 0 + 0 by unfold wrap64; omega]; rfl
  · have hop : 0 < out.length := by
      rcases Nat.eq_zero_or_pos out.length with h' | h'
      · exact absurd (List.eq_nil_of_length_eq_zero h') e
      · exact h'
    have hg := pick_good a l done last l.length 0 (-1) (by omega) (.inl rfl)
    obtain ⟨j, hj1, hj2⟩ := cnt_lt done (by rw [← h.olen, h.dlen]; exact hlt)
    have hp := pick_some a l done last l.length 0 (-1) (by omega) (.inl rfl) (.inr ⟨j, by omega, by rw [← h.dlen]; exact hj1, hj2⟩)
    obtain ⟨b, hb⟩ : ∃ b : Nat, pick a l done last l.length 0 (-1) = (b : Int) := ⟨(pick a l done last l.length 0 (-1)).toNat, by omega⟩
    rw [hb] at hg hp
    obtain ⟨_, hb1, hb2⟩ : (0 : Int) ≤ (b : Int) ∧ (b : Int) < (l.length : Int) ∧ done.getD (b : Int).toNat false = false := by
      rcases hg with hg | hg
      · omega
      · exact hg
    rw [Int.toNat_natCast] at hb2
    have hf1 := far_pos a _ _ (hpos last hll) (hpos b (by omega))
    have hf2 := far_le a ha _ _ (hpos last hll) (hpos b (by omega))
    have w3 : wrap64 (sum + far a (st l last) (st l b)) = sum + far a (st l last) (st l b) := c_wrap _ (by omega) (by omega)
    have n1 : ¬ ((l.length : Int) < (l.length : Int)) := by omega
    have b0 : (0 : Int) ≤ (b : Int) := by omega
    have b1 : (b : Int) < (done.length : Int) := by rw [h.dlen]; exact hb1
    have l0 : (0 : Int) ≤ (last : Int) := by omega
    have l1 : (last : Int) < (l.length : Int) := by omega
    refine ⟨b, key b (by omega) hb2 (fun q => absurd q e), ?_, ?_⟩
    · intro m
      have i0 := inner_s a ha l hl hF out done h.dlen sum last hll l.length 0 (m + 1) (-1) (by omega) (by omega) (.inl rfl)
      rw [show l.length + 2 + m = (l.length + (m + 1)) + 1 by omega]
      simp only [spec_NearOrder.l0, if_pos cond1]
      rw [show spec_NearOrder.l1 (l.length + (m + 1)) a l out done sum (last : Int) (-1) 0 = _ from i0, hb]
      have n2 : ¬ ((out.length : Int) = 0) := by omega
      simp only [spec_NearOrder.l1, if_neg n1, if_neg n2, if_pos l0, if_pos l1, if_pos b0, if_pos hb1, rd50, far_s a _ _ _ _ _ _ (hF last).1 (hF b).1 ha, Option.bind_some, if_pos b1, if_pos lim, Int.toNat_natCast, if_neg e]
      rw [show wrap64 (sum + far a (l.getD last z50).f0 (l.getD b z50).f0) = sum + far a (st l last) (st l b) from w3]
    · intro m
      have i0 := inner_i a ha l hl hF out hop hol last hll (h.lastof hop) hpos done h.dlen sum (l.length : Int) (out.length : Int) l.length 0 (m + 1) (-1) (by omega) (by omega) (.inl rfl)
      rw [hb] at i0
      have n3 : ¬ ((b : Int) < 0) := by omega
      rw [if_neg n3, if_neg n3, if_pos (show (-1 : Int) < 0 by omega), if_pos (show (-1 : Int) < 0 by omega), Int.toNat_natCast] at i0
      rw [show l.length + 2 + m = (l.length + (m + 1)) + 1 by omega]
      simp only [impl_NearOrder.l0, if_pos cond1]
      rw [show impl_NearOrder.l1 (l.length + (m + 1)) a l out sum done 0 (-1) (l.length : Int) (out.length : Int) l (l.length : Int) 0 = _ from i0]
      simp only [impl_NearOrder.l1, if_neg n1, if_pos lim, if_pos b0, if_pos b1, Int.toNat_natCast, w3, w2, if_neg e, List.length_append, List.length_singleton]

/-- All rounds of both sides. -/
theorem rounds_t (hpos : ∀ j, j < l.length → 0 ≤ st l j ∧ st l j < a) (r : Nat) : ∀ (out : List Int) (done : List Bool) (sum : Int) (last : Nat), Way a l out done sum last → out.length ≤ l.length → l.length - out.length = r →
    ∃ (o : List Int) (dn : List Bool) (s : Int) (z : Nat), Way a l o dn s z ∧ o.length = l.length ∧ ∀ m, spec_NearOrder.l0 ((l.length + 2) * r + 1 + m) a l out done sum (last : Int) = some (o, s, 0) ∧
      impl_NearOrder.l0 ((l.length + 2) * r + 1 + m) a l out sum done (l.length : Int) (out.length : Int) = some (o, s, 0) := by
  induction r with
  | zero =>
    intro out done sum last h hle hr
    refine ⟨out, done, sum, last, h, by omega, fun m => ⟨?_, ?_⟩⟩
    · rw [show (l.length + 2) * 0 + 1 + m = m + 1 by omega]; simp only [spec_NearOrder.l0]; rw [if_neg (by omega)]
    · rw [show (l.length + 2) * 0 + 1 + m = m + 1 by omega]; simp only [impl_NearOrder.l0]; rw [if_neg (by omega)]
  | succ r ih =>
    intro out done sum last h hle hr
    obtain ⟨b, hb, h1, h2⟩ := round_t a ha l hl hF hpos out done sum last h (by omega)
    obtain ⟨o, dn, s, z, hw, ho, hall⟩ := ih _ _ _ _ hb (by simp; omega) (by simp; omega)
    refine ⟨o, dn, s, z, hw, ho, fun m => ?_⟩
    obtain ⟨q1, q2⟩ := hall m
    rw [show (l.length + 2) * (r + 1) + 1 + m = l.length + 2 + ((l.length + 2) * r + 1 + m) by rw [Nat.mul_succ]; omega]
    exact ⟨(h1 _).trans q1, (h2 _).trans q2⟩

theorem start_way : Way a l [] (List.replicate l.length false) 0 0 := by
  have g : ∀ j, (List.replicate l.length false).getD j false = false := by
    intro j
    rw [List.getD_eq_getElem?_getD, List.getElem?_replicate]; split <;> rfl
  refine ⟨by simp, by rw [cnt_rep]; rfl, fun h => h, fun h => by simp at h, fun _ => ⟨rfl, rfl, g⟩, fun j h => by simp at h, fun j hj => ?_, fun i j _ h => by simp at h, fun h => by simp at h, by simp, rfl⟩
  rw [g j]
  constructor
  · intro h; cases h
  · rintro ⟨i, hi, _⟩; simp at hi
end

/-- Both orders. -/
theorem order_t (a : Int) (l : List S50) (hl : l.length ≤ 1048576) (hF : Fit l) : ∃ (o : List Int) (s c : Int), o.length ≤ 400 ∧ (∃ K, ∀ k, K ≤ k → spec_NearOrder.f k a l = some (o, s, c) ∧ impl_NearOrder.f k a l = some (o, s, c)) ∧
    ((8 ≤ a ∧ a ≤ 360) → l.length ≤ 400 → (∀ j, j < l.length → Pl 8 (l.getD j z50)) → (∀ j, j < l.length → (l.getD j z50).f0 < a) → c = 0 ∧ o.length = l.length ∧ ∃ dn z, Way a l o dn s z) := by
  obtain ⟨c, hc, hc2, h⟩ := code_t a l hl hF
  by_cases q : c = 0
  · obtain ⟨ha, hlen, hpl, hlt⟩ := hc q
    have hpos : ∀ j, j < l.length → 0 ≤ st l j ∧ st l j < a := fun j hj => ⟨(hpl j hj).1.1, hlt j hj⟩
    obtain ⟨o, dn, s, z, hw, ho, hall⟩ := rounds_t a (by omega) l hl hF hpos l.length [] _ 0 0 (start_way a (by omega) l hl hF) (by simp) (by simp)
    refine ⟨o, s, 0, by omega, ⟨(l.length + 2) * l.length + 1 + l.length + 5, fun k hk => ?_⟩, fun _ _ _ _ => ⟨rfl, ho, dn, z, hw⟩⟩
    obtain ⟨m, rfl⟩ : ∃ m, k = (l.length + 2) * l.length + 1 + m := ⟨k - ((l.length + 2) * l.length + 1), by omega⟩
    obtain ⟨s1, m1⟩ := h ((l.length + 2) * l.length + 1 + m) (by omega)
    obtain ⟨q1, q2⟩ := hall m
    unfold spec_NearOrder.f impl_NearOrder.f
    rw [s1, m1]; simp only [Option.bind_some, if_pos q]
    rw [if_pos (by omega), if_pos (by omega), if_pos (by omega), if_pos (by omega), Int.toNat_natCast]
    exact ⟨q1, q2⟩
  · refine ⟨[], 0, c, by simp, ⟨l.length + 5, fun k hk => ?_⟩, fun h1 h2 h3 h4 => absurd (hc2 h1 h2 h3 h4) q⟩
    obtain ⟨s1, m1⟩ := h k (by omega)
    unfold spec_NearOrder.f impl_NearOrder.f
    rw [s1, m1]; simp only [Option.bind_some, if_neg q]
    exact ⟨trivial, trivial⟩
theorem far_half (a x y : Int) (hx : 0 ≤ x ∧ x < a) (hy : 0 ≤ y ∧ y < a) : 2 * far a x y ≤ a := by
  unfold far; repeat' split
  all_goals omega
theorem wayN_b (f : Nat → Int) (a : Int) (n : Nat) (hf : ∀ j, j < n → 0 ≤ f j ∧ f j < a) (m : Nat) (hm : m ≤ n) : 0 ≤ wayN f a m ∧ 2 * wayN f a m ≤ a * (m : Int) := by
  induction m with
  | zero => simp [wayN]
  | succ m ih =>
    obtain ⟨h1, h2⟩ := ih (by omega)
    have e2 : a * ((m + 1 : Nat) : Int) = a * (m : Int) + a := by rw [show ((m + 1 : Nat) : Int) = (m : Int) + 1 by omega, Int.mul_add, Int.mul_one]
    rw [wayN, e2]
    have ha := hf m (by omega)
    by_cases e : m = 0
    · rw [if_pos e]; omega
    · rw [if_neg e]
      have p1 := far_pos a _ _ (hf (m - 1) (by omega)) (hf m (by omega))
      have p2 := far_half a _ _ (hf (m - 1) (by omega)) (hf m (by omega))
      omega
section
variable (a : Int) (ha : 0 ≤ a ∧ a ≤ 1048576) (l : List S50) (hl : l.length ≤ 1048576) (hF : Fit l)
include ha hl hF
theorem wayv_l (hpos : ∀ j, j < l.length → 0 ≤ st l j ∧ st l j < a) (d : Nat) : ∀ (k i : Nat), l.length - i = d → 1 ≤ i → i ≤ l.length → d < k →
    spec_WayOf.l0 k a l (wayN (st l) a i) (i : Int) = some (wayN (st l) a l.length, 0) ∧ impl_WayOf.l0 k a l (wayN (st l) a i) (i : Int) = some (wayN (st l) a l.length, 0) := by
  induction d with
  | zero =>
    intro k i hd h1 hi hk
    obtain ⟨k, rfl⟩ : ∃ m, k = m + 1 := ⟨k - 1, by omega⟩
    have : i = l.length := by omega
    constructor
    · simp only [spec_WayOf.l0]; rw [if_neg (by omega), this]
    · simp only [impl_WayOf.l0]; rw [if_neg (by omega), this]
  | succ d ih =>
    intro k i hd h1 hi hk
    obtain ⟨k, rfl⟩ : ∃ m, k = m + 1 := ⟨k - 1, by omega⟩
    have p1 : (i : Int) < (l.length : Int) := by omega
    have p2 : 0 ≤ (i : Int) := by omega
    have w : wrap64 ((i : Int) + 1) = ((i + 1 : Nat) : Int) := by rw [c_wrap _ (by omega) (by omega)]; omega
    have w1 : wrap64 ((i : Int) - 1) = ((i - 1 : Nat) : Int) := by rw [c_wrap _ (by omega) (by omega)]; omega
    obtain ⟨b1, b2⟩ := wayN_b (st l) a l.length hpos (i + 1) (by omega)
    have hm : a * ((i + 1 : Nat) : Int) ≤ 1048576 * 1048577 := Int.mul_le_mul ha.2 (by omega) (by omega) (by omega)
    have e1 : wayN (st l) a (i + 1) = wayN (st l) a i + far a (st l (i - 1)) (st l i) := by rw [wayN, if_neg (by omega)]
    have w2 : wrap64 (wayN (st l) a i + far a (st l (i - 1)) (st l i)) = wayN (st l) a (i + 1) := by rw [← e1]; exact c_wrap _ (by omega) (by omega)
    obtain ⟨r1, r2⟩ := ih k (i + 1) (by omega) (by omega) (by omega) (by omega)
    constructor
    · simp only [spec_WayOf.l0, w, w1, rd50, far_s a _ _ _ _ _ _ (hF (i - 1)).1 (hF i).1 ha, Option.bind_some]
      rw [if_pos p1, if_pos (by omega), if_pos (by omega), if_pos p2, show wrap64 (wayN (st l) a i + far a (l.getD (i - 1) z50).f0 (l.getD i z50).f0) = wayN (st l) a (i + 1) from w2]; exact r1
    · simp only [impl_WayOf.l0, w, w1, rd50, far_i a _ _ _ _ _ _ (hF (i - 1)).1 (hF i).1 ha, Option.bind_some]
      rw [if_pos p1, if_pos (by omega), if_pos (by omega), if_pos p2, show wrap64 (wayN (st l) a i + far a (l.getD (i - 1) z50).f0 (l.getD i z50).f0) = wayN (st l) a (i + 1) from w2]; exact r2
end
/-- Both ways, of plain cuts on so many steps. -/
theorem wayv_t (a : Int) (l : List S50) (ha : 8 ≤ a ∧ a ≤ 360) (hl : l.length ≤ 400) (hF : Fit l) (hpl : ∀ j, j < l.length → Pl 8 (l.getD j z50)) (hlt : ∀ j, j < l.length → (l.getD j z50).f0 < a) :
    ∀ k, l.length + 5 < k → spec_WayOf.f k a l = some (wayN (st l) a l.length, 0) ∧ impl_WayOf.f k a l = some (wayN (st l) a l.length, 0) := by
  intro k hk
  obtain ⟨c, _, hc2, h⟩ := code_t a l (by omega) hF
  obtain ⟨s, i⟩ := h k (by omega)
  have c0 := hc2 ha hl hpl hlt
  have hpos : ∀ j, j < l.length → 0 ≤ st l j ∧ st l j < a := fun j hj => ⟨(hpl j hj).1.1, hlt j hj⟩
  unfold spec_WayOf.f impl_WayOf.f
  rw [s, i]; simp only [Option.bind_some, if_pos c0]
  rcases Nat.eq_zero_or_pos l.length with e | e
  · obtain ⟨k, rfl⟩ : ∃ m, k = m + 1 := ⟨k - 1, by omega⟩
    simp only [spec_WayOf.l0, impl_WayOf.l0]
    rw [if_neg (by omega), if_neg (by omega), e]; exact ⟨rfl, rfl⟩
  · obtain ⟨r1, r2⟩ := wayv_l a (by omega) l (by omega) hF hpos (l.length - 1) (l.length + 1) 1 (by omega) (by omega) (by omega) (by omega)
    have e1 : wayN (st l) a 1 = 0 := rfl
    rw [e1] at r1 r2
    exact ⟨at_rounds (fun k => (spec_WayOf.mono_l k) a l 0 ((1 : Nat) : Int)) (show l.length + 1 ≤ k by omega) r1, at_rounds (fun k => (impl_WayOf.mono_l k) a l 0 ((1 : Nat) : Int)) (show l.length + 1 ≤ k by omega) r2⟩
theorem spec_l00Same_l (l : List Int) (hl : l.length ≤ 1048576) (d : Nat) : ∀ (k : Nat) (i : Nat), l.length - i = d → d < k → spec_l00Same.l0 k l l (i : Int) = some true := by
  induction d with
  | zero =>
    intro k i hd hk
    obtain ⟨k, rfl⟩ : ∃ m, k = m + 1 := ⟨k - 1, by omega⟩
    simp only [spec_l00Same.l0]; rw [if_neg (by omega)]
  | succ d ih =>
    intro k i hd hk
    obtain ⟨k, rfl⟩ : ∃ m, k = m + 1 := ⟨k - 1, by omega⟩
    simp only [spec_l00Same.l0]; rw [if_pos (by omega), if_pos (by omega), if_pos (by omega), if_pos trivial]
    rw [b_wrap _ (by omega) (by omega), show ((i : Int) + 1) = ((i + 1 : Nat) : Int) by omega]
    exact ih k (i + 1) (by omega) (by omega)

theorem spec_l00Same_t (l : List Int) (hl : l.length ≤ 1048576) (k : Nat) (hk : l.length < k) : spec_l00Same.f k l l = some true := by
  unfold spec_l00Same.f
  rw [if_pos rfl]
  exact spec_l00Same_l l hl l.length k 0 (by omega) hk

theorem bytes_rd (l : List Int) (h : ∀ x ∈ l, (Lit.int .u8 x).wf = true) (i : Int) : 0 ≤ rd l i ∧ rd l i ≤ 255 := by
  unfold rd
  rw [List.getD_eq_getElem?_getD]
  by_cases hj : i.toNat < l.length
  · rw [List.getElem?_eq_getElem hj]
    have := h _ (List.getElem_mem hj)
    simp [Lit.wf, IntKind.min, IntKind.max, IntKind.bits, IntKind.signed] at this
    simpa using this
  · rw [List.getElem?_eq_none (by omega)]; simp
theorem and255 (x : Int) : 0 ≤ Go.bits .and .u64 (IntKind.u64.wrap x / 1099511627776) 255 ∧ Go.bits .and .u64 (IntKind.u64.wrap x / 1099511627776) 255 ≤ 255 := by
  have h0 : 0 ≤ IntKind.u64.wrap x ∧ IntKind.u64.wrap x < 18446744073709551616 := by rw [IntKind.wrap_u64]; omega
  obtain ⟨n, hn⟩ : ∃ n : Nat, IntKind.u64.wrap x / 1099511627776 = (n : Int) := ⟨(IntKind.u64.wrap x / 1099511627776).toNat, by omega⟩
  rw [hn, show (255 : Int) = ((255 : Nat) : Int) from rfl, bits_and_u64_nat n 255 (by omega) (by omega)]
  have := @Nat.and_le_right n 255
  omega
theorem next_t (l : List Int) (h : ∀ x ∈ l, (Lit.int .u8 x).wf = true) (s q : Int) (hs : 0 ≤ s ∧ s ≤ 1048576) : ∃ v q', spec_l00Src_next.f l s q = some (v, s + 1, q') ∧ 0 ≤ v ∧ v ≤ 255 := by
  have w : wrap64 (s + 1) = s + 1 := c_wrap _ (by omega) (by omega)
  have hb := bytes_rd l h s
  have w0 : wrap64 (rd l s) = rd l s := c_wrap _ (by omega) (by omega)
  unfold spec_l00Src_next.f
  rw [w]
  by_cases h1 : s < (l.length : Int)
  · rw [if_pos h1, if_pos hs.1]
    by_cases h2 : s + 1 ≤ (l.length : Int)
    · rw [if_pos h2, w0]; exact ⟨_, _, rfl, hb.1, hb.2⟩
    · omega
  · rw [if_neg h1]
    by_cases h2 : s + 1 ≤ (l.length : Int)
    · omega
    · rw [if_neg h2]
      have g := and255 (IntKind.u64.wrap (IntKind.u64.wrap (q * 6364136223846793005)) + 1442695040888963407)
      refine ⟨_, _, rfl, ?_⟩
      rw [c_wrap _ (by omega) (by omega)]; exact g
theorem pick_t (l : List Int) (h : ∀ x ∈ l, (Lit.int .u8 x).wf = true) (s q n : Int) (hs : 0 ≤ s ∧ s ≤ 1048576) (hn : 2 ≤ n ∧ n ≤ 200) : ∃ v q', spec_l00Src_pick.f l s q n = some (v, s + 1, q') ∧ 0 ≤ v ∧ v < n := by
  obtain ⟨v, q', h1, h2, h3⟩ := next_t l h s q hs
  refine ⟨Int.tmod v n, q', ?_, ?_, ?_⟩
  · unfold spec_l00Src_pick.f
    rw [if_neg (by omega), h1]
    simp only [Option.bind_some]
    rw [if_neg (by omega), if_neg (by omega)]
  · exact Int.tmod_nonneg _ h2
  · exact Int.tmod_lt_of_pos _ (by omega)
theorem w16 (x : Int) (h : -32768 ≤ x ∧ x ≤ 32767) : IntKind.i16.wrap x = x := by
  simp [IntKind.wrap, IntKind.bits, IntKind.signed]
  split <;> omega
theorem draw_l (l : List Int) (h : ∀ x ∈ l, (Lit.int .u8 x).wf = true) (a : Int) (ha : 8 ≤ a ∧ a ≤ 67) (r : Nat) : ∀ (x : List S50) (s q : Int), r ≤ 10 → x.length + r ≤ 20 → 0 ≤ s → s + 2 * r ≤ 1000 → (∀ y ∈ x, (0 ≤ y.f0 ∧ y.f0 < a) ∧ (0 ≤ y.f1 ∧ y.f1 ≤ 59) ∧ y.f2 = 0) →
    ∃ o, (∀ k, r < k → spec_A2Cuts.l0 k a x (r : Int) l s q = some o) ∧ o.length = x.length + r ∧ ∀ y ∈ o, (0 ≤ y.f0 ∧ y.f0 < a) ∧ (0 ≤ y.f1 ∧ y.f1 ≤ 59) ∧ y.f2 = 0 := by
  induction r with
  | zero =>
    intro x s q _ hx hs hs2 hall
    refine ⟨x, fun k hk => ?_, rfl, hall⟩
    obtain ⟨k, rfl⟩ : ∃ m, k = m + 1 := ⟨k - 1, by omega⟩
    simp only [spec_A2Cuts.l0]; rw [if_neg (by omega)]
  | succ r ih =>
    intro x s q hr hx hs hs2 hall
    obtain ⟨v, q1, h1, v0, v1⟩ := pick_t l h s q a (by omega) (by omega)
    obtain ⟨u, q2, h2, u0, u1⟩ := pick_t l h (s + 1) q1 60 (by omega) (by omega)
    have wv : IntKind.i16.wrap v = v := w16 _ (by omega)
    have wu : IntKind.i16.wrap u = u := w16 _ (by omega)
    obtain ⟨o, ho, hlen, hP⟩ := ih (x ++ [⟨v, u, 0⟩]) (s + 1 + 1) q2 (by omega) (by simp; omega) (by omega) (by omega) (by
      intro y hy
      rcases List.mem_append.1 hy with hy | hy
      · exact hall y hy
      · rw [List.mem_singleton.1 hy]; exact ⟨⟨v0, v1⟩, ⟨u0, show u ≤ 59 by omega⟩, rfl⟩)
    refine ⟨o, fun k hk => ?_, by rw [hlen]; simp; omega, hP⟩
    obtain ⟨k, rfl⟩ : ∃ m, k = m + 1 := ⟨k - 1, by omega⟩
    have w : wrap64 (((r + 1 : Nat) : Int) - 1) = (r : Int) := by rw [c_wrap _ (by omega) (by omega)]; omega
    have ho' := ho k (by omega)
    simp only [spec_A2Cuts.l0, w]
    rw [if_pos (by omega), h1]
    simp only [Option.bind_some]
    rw [h2]
    simp only [Option.bind_some]
    rw [if_pos (by omega), wv, wu]; exact ho'
theorem draw_t (l : List Int) (h : ∀ x ∈ l, (Lit.int .u8 x).wf = true) (a : Int) (ha : 8 ≤ a ∧ a ≤ 67) : ∃ o, (∀ k, 20 ≤ k → spec_A2Cuts.f k l a = some o) ∧ o.length ≤ 7 ∧ ∀ y ∈ o, (0 ≤ y.f0 ∧ y.f0 < a) ∧ (0 ≤ y.f1 ∧ y.f1 ≤ 59) ∧ y.f2 = 0 := by
  obtain ⟨v, q1, h1, v0, v1⟩ := pick_t l h 0 0 8 (by omega) (by omega)
  obtain ⟨r, hr⟩ : ∃ r : Nat, v = (r : Int) := ⟨v.toNat, by omega⟩
  subst hr
  obtain ⟨o, ho, hlen, hP⟩ := draw_l l h a ha r [] (0 + 1) q1 (by omega) (by simp; omega) (by omega) (by omega) (by simp)
  refine ⟨o, fun k hk => ?_, by rw [hlen]; simp; omega, hP⟩
  unfold spec_A2Cuts.f spec_l00From.f
  simp only [Option.bind_some]
  rw [h1]
  simp only [Option.bind_some]
  exact ho k (by omega)

/-- The cuts in their order. -/
def turned (l : List S50) (o : List Int) (i : Nat) : List S50 := (o.take i).map fun q => l.getD q.toNat z50
theorem turned_get (l : List S50) (o : List Int) (i j : Nat) (hj : j < i) (hi : i ≤ o.length) : (turned l o i).getD j z50 = l.getD (o.getD j 0).toNat z50 := by
  unfold turned
  rw [List.getD_eq_getElem?_getD, List.getElem?_map, List.getElem?_take_of_lt hj, List.getElem?_eq_getElem (by omega), show o.getD j 0 = o[j]'(by omega) by rw [List.getD_eq_getElem?_getD, List.getElem?_eq_getElem (by omega)]; rfl]; rfl
theorem turned_len (l : List S50) (o : List Int) (i : Nat) (hi : i ≤ o.length) : (turned l o i).length = i := by
  unfold turned; rw [List.length_map, List.length_take]; omega
theorem turned_snoc (l : List S50) (o : List Int) (i : Nat) (hi : i < o.length) : turned l o (i + 1) = turned l o i ++ [l.getD (o.getD i 0).toNat z50] := by
  unfold turned
  rw [List.take_succ_eq_append_getElem hi, List.map_append, show o.getD i 0 = o[i] by rw [List.getD_eq_getElem?_getD, List.getElem?_eq_getElem hi]; rfl]; rfl

section
variable (a : Int) (l : List S50) (o : List Int) (s : Int) (hlen : o.length = l.length) (h7 : l.length ≤ 7) (hin : ∀ j, j < o.length → 0 ≤ o.getD j 0 ∧ o.getD j 0 < (l.length : Int)) (hd : ∀ i j, i < j → j < o.length → o.getD i 0 ≠ o.getD j 0) (h0 : 0 < o.length → o.getD 0 0 = 0)
include hlen h7 hin hd h0
/-- No number comes twice. -/
theorem twice_l (x : List S50) (hx : x.length ≤ 20) (i : Nat) (hi : i < o.length) (d : Nat) : ∀ (j k : Nat), i - j = d → j ≤ i →
    laws_FnWays.l1 (d + 1 + k) a l o s x (i : Int) (j : Int) = laws_FnWays.l0 k a l o s (x ++ [l.getD (o.getD i 0).toNat z50]) ((i + 1 : Nat) : Int) := by
  induction d with
  | zero =>
    intro j k hj hle
    have : j = i := by omega
    subst this
    have w : wrap64 ((j : Int) + 1) = ((j + 1 : Nat) : Int) := by rw [c_wrap _ (by omega) (by omega)]; omega
    obtain ⟨p1, p2⟩ := hin j hi
    rw [show 0 + 1 + k = k + 1 by omega]
    simp only [laws_FnWays.l1, rdI, w]
    rw [if_neg (by omega), if_pos (by omega), if_pos (by omega), if_pos p1, if_pos p2, if_pos (by omega)]
    rfl
  | succ d ih =>
    intro j k hj hle
    have w : wrap64 ((j : Int) + 1) = ((j + 1 : Nat) : Int) := by rw [c_wrap _ (by omega) (by omega)]; omega
    rw [← ih (j + 1) k (by omega) (by omega), show d + 1 + 1 + k = (d + 1 + k) + 1 by omega]
    simp only [laws_FnWays.l1, rdI, w]
    rw [if_pos (by omega), if_pos (by omega), if_pos (by omega), if_pos (by omega), if_pos (by omega), if_neg (hd j i (by omega) hi)]

theorem all_l (d : Nat) : ∀ (i k : Nat), o.length - i = d → i ≤ o.length →
    ∃ m, m ≤ 12 * d ∧ laws_FnWays.l0 (m + k) a l o s (turned l o i) (i : Int) = laws_FnWays.l0 k a l o s (turned l o o.length) (o.length : Int) := by
  induction d with
  | zero =>
    intro i k hi hle
    have : i = o.length := by omega
    subst this
    exact ⟨0, by omega, by rw [Nat.zero_add]⟩
  | succ d ih =>
    intro i k hi hle
    have hil : i < o.length := by omega
    obtain ⟨m, hm, e⟩ := ih (i + 1) k (by omega) (by omega)
    refine ⟨1 + (1 + (i + 1 + m)), by omega, ?_⟩
    obtain ⟨p1, p2⟩ := hin i hil
    have tl := turned_len l o i (by omega)
    have t := twice_l a l o s hlen h7 hin hd h0 (turned l o i) (by omega) i hil i 0 (m + k) (by omega) (by omega)
    have j2 : laws_FnWays.j2 (1 + (i + 1 + (m + k))) a l o s (turned l o i) (i : Int) false = laws_FnWays.l0 k a l o s (turned l o o.length) (o.length : Int) := by
      rw [show 1 + (i + 1 + (m + k)) = (i + 1 + (m + k)) + 1 by omega]
      simp only [laws_FnWays.j2, Bool.false_eq_true, if_false]
      rw [show (0 : Int) = ((0 : Nat) : Int) from rfl, t, ← turned_snoc l o i hil]; exact e
    rw [show 1 + (1 + (i + 1 + m)) + k = (1 + (i + 1 + (m + k))) + 1 by omega]
    simp only [laws_FnWays.l0, rdI]
    rw [if_pos (by omega), if_pos (by omega), if_neg (by omega), if_neg (by omega)]
    by_cases e0 : (i : Int) = 0
    · have z : i = 0 := by omega
      subst z
      have r0 : (rd o 0 != 0) = false := by
        rw [show rd o 0 = o.getD 0 0 from rfl, h0 (by omega)]; rfl
      rw [if_pos e0, if_pos (by omega), r0]; exact j2
    · rw [if_neg e0]; exact j2
end

theorem FnWays : laws_FnWays.Pure := by
  intro code more hc1 hc2 hc3 hm1 hm2 hm3
  by_cases hlong : (code.length : Int) > 3000 ∨ (more.length : Int) > 3000
  · refine ⟨1, ?_⟩
    unfold laws_FnWays.f laws_a2Long.f
    by_cases h1 : (code.length : Int) > 3000
    · rw [if_pos h1]; simp
    · rw [if_neg h1, decide_eq_true (hlong.resolve_left h1)]; simp
  · have n1 : ¬ (code.length : Int) > 3000 := fun q => hlong (.inl q)
    have n2 : ¬ (more.length : Int) > 3000 := fun q => hlong (.inr q)
    clear hlong
    obtain ⟨t, ht, t0, t1⟩ : ∃ t, laws_a2At.f code 0 60 = some t ∧ 0 ≤ t ∧ t < 60 := by
      unfold laws_a2At.f
      by_cases q : (0 : Int) ≥ (code.length : Int)
      · rw [if_pos q]; exact ⟨0, rfl, by omega, by omega⟩
      · have hb := bytes_rd code hc3 0
        rw [if_neg q, if_neg (by omega), if_pos (by omega), if_pos (by omega), if_neg (by omega), c_wrap _ (by omega) (by omega)]
        exact ⟨_, rfl, Int.tmod_nonneg _ hb.1, Int.tmod_lt_of_pos _ (by omega)⟩
    obtain ⟨a, ha⟩ : ∃ a, a = 8 + t := ⟨_, rfl⟩
    have wa : wrap64 (8 + t) = a := by rw [ha]; exact c_wrap _ (by omega) (by omega)
    obtain ⟨l, hl, h7, hall⟩ := draw_t more hm3 a (by omega)
    have hget : ∀ j, j < l.length → (0 ≤ (l.getD j z50).f0 ∧ (l.getD j z50).f0 < a) ∧ (0 ≤ (l.getD j z50).f1 ∧ (l.getD j z50).f1 ≤ 59) ∧ (l.getD j z50).f2 = 0 := fun j hj => by
      rw [List.getD_eq_getElem?_getD, List.getElem?_eq_getElem hj]; exact hall _ (List.getElem_mem hj)
    have hfit : Fit l := fun j => by
      by_cases hj : j < l.length
      · obtain ⟨⟨a1, a2⟩, ⟨b1, b2⟩, c1⟩ := hget j hj
        exact ⟨⟨by omega, by omega⟩, ⟨by omega, by omega⟩, ⟨by omega, by omega⟩⟩
      · rw [List.getD_eq_getElem?_getD, List.getElem?_eq_none (by omega)]; simp [z50]
    have hpl : ∀ j, j < l.length → Pl 8 (l.getD j z50) := fun j hj => by
      obtain ⟨⟨a1, a2⟩, ⟨b1, b2⟩, c1⟩ := hget j hj
      exact ⟨⟨a1, by omega⟩, ⟨b1, by omega⟩, ⟨by omega, by omega⟩⟩
    have hlt : ∀ j, j < l.length → (l.getD j z50).f0 < a := fun j hj => (hget j hj).1.2
    have hpos : ∀ j, j < l.length → 0 ≤ st l j ∧ st l j < a := fun j hj => (hget j hj).1
    obtain ⟨o, s, c, ho, ⟨K, hK⟩, hgood⟩ := order_t a l (by omega) hfit
    obtain ⟨hc0, hlen, dn, z, hw⟩ := hgood (by omega) (by omega) hpl hlt
    subst hc0
    have htl := turned_len l o o.length (Nat.le_refl _)
    have htg : ∀ j, j < o.length → (turned l o o.length).getD j z50 = l.getD (o.getD j 0).toNat z50 := fun j hj => turned_get l o o.length j hj (Nat.le_refl _)
    have hlt2 : ∀ j, j < o.length → (o.getD j 0).toNat < l.length := fun j hj => by have := hw.inr j hj; omega
    have tfit : Fit (turned l o o.length) := fun j => by
      by_cases hj : j < o.length
      · rw [htg j hj]; exact hfit _
      · rw [List.getD_eq_getElem?_getD, List.getElem?_eq_none (by omega)]; simp [z50]
    have v1 := wayv_t a (turned l o o.length) (by omega) (by omega) tfit (fun j hj => by rw [htg j (by omega)]; exact hpl _ (hlt2 j (by omega))) (fun j hj => by rw [htg j (by omega)]; exact hlt _ (hlt2 j (by omega)))
    have v2 := wayv_t a l (by omega) (by omega) hfit hpl hlt
    have own : wayN (st (turned l o o.length)) a (turned l o o.length).length = s := by
      rw [htl, hw.sumof]
      exact wayN_congr _ _ a o.length (fun j hj => by show ((turned l o o.length).getD j z50).f0 = (l.getD (o.getD j 0).toNat z50).f0; rw [htg j hj])
    rw [own] at v1
    obtain ⟨w0, w1⟩ := wayN_b (st l) a l.length hpos l.length (Nat.le_refl _)
    have hal : a * (l.length : Int) ≤ 67 * 7 := Int.mul_le_mul (by omega) (by omega) (by omega) (by omega)
    obtain ⟨m0, hm0, hm⟩ := all_l a l o s hlen h7 hw.inr hw.dist hw.first o.length 0 (K + 500) (by omega) (by omega)
    refine ⟨m0 + (K + 500) + 1, ?_⟩
    obtain ⟨g1, g2⟩ := hK (m0 + (K + 500) + 1) (by omega)
    have sm := spec_l00Same_t o (by omega) (m0 + (K + 500) + 1) (by omega)
    have hl' := hl (m0 + (K + 500) + 1) (by omega)
    unfold laws_FnWays.f laws_a2Long.f spec_A2Same.f
    rw [if_neg n1, decide_eq_false n2]
    simp only [Option.bind_some, Bool.false_eq_true, if_false, ht, wa, hl', g1, g2, if_true, sm]
    have jb : ((o.length : Int) != (l.length : Int)) = false := by rw [hlen]; simp
    rw [jb]
    simp only [laws_FnWays.j0, Bool.false_eq_true, if_false]
    rw [show laws_FnWays.l0 (m0 + (K + 500)) a l o s ([] : List S50) 0 = laws_FnWays.l0 (m0 + (K + 500)) a l o s (turned l o 0) ((0 : Nat) : Int) from rfl, hm]
    have z1 := (v1 (K + 499) (by omega)).2
    obtain ⟨y1, y2⟩ := v2 (K + 499) (by omega)
    rw [show K + 500 = (K + 499) + 1 by omega]
    simp only [laws_FnWays.l0]
    rw [if_neg (by omega), z1, y1, y2]
    simp only [Option.bind_some, if_true]
    rw [if_pos (by omega), c_wrap (2 * _) (by omega) (by omega), c_wrap (a * _) (by have := Int.mul_nonneg (show (0 : Int) ≤ a by omega) (show (0 : Int) ≤ (l.length : Int) by omega); omega) (by omega), decide_eq_true w1]

end Go.Proofs.Ytpkhneodcndlpaa.Pure
