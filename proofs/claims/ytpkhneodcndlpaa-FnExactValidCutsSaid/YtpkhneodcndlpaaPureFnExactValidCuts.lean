/- The pure statement of the law FnExactValidCuts is proved: for every input that the law speaks of, the law's function answers true. No conditions beyond the statement's own. -/
import Derived.Test.YtpkhneodcndlpaaFFnExactValidCutsx
import Derived.Test.YtpkhneodcndlpaaShapeFnExactValidCuts
import Derived.OpenShut
namespace Go.Proofs.Ytpkhneodcndlpaa.Pure
open Go.RowKit Go.Proofs.Ytpkhneodcndlpaa.FFnExactValidCuts Go.Proofs.YtpkhneodcndlpaaW.PrintWords Go.Proofs.YtpkhneodcndlpaaW.PrintLast
set_option linter.unusedVariables false

theorem b_wrap (x : Int) (h : -9223372036854775808 ≤ x) (h' : x ≤ 9223372036854775807) : wrap64 x = x := by
  unfold wrap64; omega

theorem b_rd (l : List Int) (i : Nat) (h : i < l.length) : rd l (i : Int) = l[i] := by
  unfold rd; rw [List.getD_eq_getElem?_getD, Int.toNat_natCast, List.getElem?_eq_getElem h]; rfl

theorem b_take (l : List Int) (i : Nat) (h : i < l.length) : l.take (i + 1) = l.take i ++ [l[i]] := by
  rw [List.take_succ_eq_append_getElem h]

theorem b_set (x : List Int) (i : Nat) (v : Int) (h : i < x.length) : (x.set i v).take (i + 1) = x.take i ++ [v] := by
  have h' : i < (x.set i v).length := by rw [List.length_set]; exact h
  rw [List.take_succ_eq_append_getElem h', List.getElem_set_self, List.take_set_of_le (Nat.le_refl i)]
set_option linter.unusedSectionVars false
theorem impl_inRange_t (a b c : Int) : impl_inRange.f a b c = some (decide (b ≤ a ∧ a ≤ c)) := by
  unfold impl_inRange.f
  by_cases h : b ≤ a
  · rw [if_pos h]; simp [h]
  · rw [if_neg h]; simp [h]
theorem spec_l00In_t (a b c : Int) : spec_l00In.f a b c = some (decide (b ≤ a ∧ a ≤ c)) := by
  unfold spec_l00In.f
  by_cases h : b ≤ a
  · rw [if_pos h]; simp [h]
  · rw [if_neg h]; simp [h]
theorem c_wrap (x : Int) (h : -9223372036854775808 ≤ x) (h' : x ≤ 9223372036854775807) : wrap64 x = x := by
  unfold wrap64; omega
/-- The fields of all cuts fit their kinds. -/
def Fit (l : List S50) : Prop := ∀ j : Nat, (-32768 ≤ (l.getD j z50).f0 ∧ (l.getD j z50).f0 ≤ 32767) ∧ (-32768 ≤ (l.getD j z50).f1 ∧ (l.getD j z50).f1 ≤ 32767) ∧ (-128 ≤ (l.getD j z50).f2 ∧ (l.getD j z50).f2 ≤ 127)
theorem rd50 (l : List S50) (i : Nat) : rd_T50 l (i : Int) = l.getD i z50 := by unfold rd_T50; rw [Int.toNat_natCast]
/-- A cut that is plain, with so many cutters. -/
def Pl (c : Int) (x : S50) : Prop := (0 ≤ x.f0 ∧ x.f0 ≤ 359) ∧ (0 ≤ x.f1 ∧ x.f1 ≤ 10000) ∧ (0 ≤ x.f2 ∧ x.f2 ≤ c - 1)

theorem plain_l (l : List S50) (hl : l.length ≤ 1048576) (hF : Fit l) (c : Int) (hc : 0 ≤ c ∧ c ≤ 1048576) (d : Nat) : ∀ (k i : Nat), l.length - i = d → d < k →
    ∃ r v, spec_l06Plain.l0 k l c (i : Int) = some r ∧ impl_Cut_c89_100.l0 k l (l.length : Int) (i : Int) [c] = some v ∧ (r = !(decide (v ≥ 0))) ∧ (r = true ↔ ∀ j, i ≤ j → j < l.length → Pl c (l.getD j z50)) := by
  induction d with
  | zero =>
    intro k i hd hk
    obtain ⟨k, rfl⟩ : ∃ m, k = m + 1 := ⟨k - 1, by omega⟩
    refine ⟨true, -1, ?_, ?_, by simp, ?_⟩
    · simp only [spec_l06Plain.l0]; rw [if_neg (by omega)]
    · simp only [impl_Cut_c89_100.l0]; rw [if_neg (by omega)]
    · simp only [true_iff]; intro j h1 h2; omega
  | succ d ih =>
    intro k i hd hk
    obtain ⟨k, rfl⟩ : ∃ m, k = m + 1 := ⟨k - 1, by omega⟩
    obtain ⟨b0, b1, b2⟩ := hF i
    have p1 : (i : Int) < (l.length : Int) := by omega
    have p2 : 0 ≤ (i : Int) := by omega
    have w : wrap64 ((i : Int) + 1) = ((i + 1 : Nat) : Int) := by rw [c_wrap _ (by omega) (by omega)]; omega
    simp only [spec_l06Plain.l0, impl_Cut_c89_100.l0, if_pos p1, if_pos p2, rd50, w]
    unfold spec_l01Lift.f impl_areCuts_1.f impl_isLift.f impl_isPlace.f
    rw [c_wrap _ (by omega) (by omega), c_wrap _ (by omega) (by omega), c_wrap _ (by omega) (by omega), c_wrap _ (by omega) (by omega)]
    rw [show wrap64 (rd [c] 0 - 1) = c - 1 from c_wrap _ (by unfold rd; simp; omega) (by unfold rd; simp; omega)]
    simp only [spec_l00In_t, impl_inRange_t, Option.bind_some]
    have stop : ∀ q : ¬ Pl c (l.getD i z50), ∃ r v, some false = some r ∧ some ((i : Nat) : Int) = some v ∧ (r = !(decide (v ≥ 0))) ∧ (r = true ↔ ∀ j, i ≤ j → j < l.length → Pl c (l.getD j z50)) := fun q =>
      ⟨false, i, rfl, rfl, by simp, ⟨(fun h => by cases h), fun h => absurd (h i (Nat.le_refl _) (by omega)) q⟩⟩
    by_cases c0 : 0 ≤ (l.getD i z50).f0 ∧ (l.getD i z50).f0 ≤ 359
    · by_cases c1 : 0 ≤ (l.getD i z50).f1 ∧ (l.getD i z50).f1 ≤ 10000
      · by_cases c2 : 0 ≤ (l.getD i z50).f2 ∧ (l.getD i z50).f2 ≤ c - 1
        · obtain ⟨r, v, h1, h2, h3, h4⟩ := ih k (i + 1) (by omega) (by omega)
          refine ⟨r, v, ?_, ?_, h3, ?_⟩
          · simp only [decide_eq_true c0, decide_eq_true c1, decide_eq_true c2, if_true]; exact h1
          · simp only [decide_eq_true c0, decide_eq_true c1, decide_eq_true c2, if_true, List.length_singleton, show (0 : Int) < ((1 : Nat) : Int) by omega, Option.bind_some, Bool.not_true, Bool.false_eq_true, if_false]; exact h2
          · rw [h4]
            refine ⟨fun h j q1 q2 => ?_, fun h j q1 q2 => h j (by omega) q2⟩
            by_cases e : j = i
            · subst e; exact ⟨c0, c1, c2⟩
            · exact h j (by omega) q2
        · have := stop (fun q => c2 q.2.2)
          simpa only [decide_eq_true c0, decide_eq_true c1, decide_eq_false c2, if_true, Bool.false_eq_true, if_false, List.length_singleton, show (0 : Int) < ((1 : Nat) : Int) by omega, Option.bind_some, Bool.not_false] using this
      · have := stop (fun q => c1 q.2.1)
        simpa only [decide_eq_true c0, decide_eq_false c1, if_true, Bool.false_eq_true, if_false, Option.bind_some] using this
    · have := stop (fun q => c0 q.1)
      simpa only [decide_eq_false c0, if_true, Bool.false_eq_true, if_false, Option.bind_some] using this

theorem plain_t (l : List S50) (hl : l.length ≤ 1048576) (hF : Fit l) (c : Int) (hc : 0 ≤ c ∧ c ≤ 1048576) : ∃ b : Bool, (b = true ↔ l.length ≤ 400 ∧ ∀ j, j < l.length → Pl c (l.getD j z50)) ∧ ∀ k, l.length < k → spec_l06Plain.f k l c = some b ∧ impl_areCuts.f k l c = some b := by
  by_cases h : l.length ≤ 400
  · obtain ⟨r, v, h1, h2, h3, h4⟩ := plain_l l hl hF c hc l.length (l.length + 1) 0 (by omega) (by omega)
    refine ⟨r, ?_, fun k hk => ?_⟩
    · rw [h4]; exact ⟨fun q => ⟨h, fun j hj => q j (by omega) hj⟩, fun q j _ hj => q.2 j hj⟩
    · have h1' := at_rounds (fun k => (spec_l06Plain.mono_l k) l c ((0 : Nat) : Int)) (show l.length + 1 ≤ k by omega) h1
      have h2' := at_rounds (fun k => (impl_Cut_c89_100.mono_l k) l (l.length : Int) ((0 : Nat) : Int) [c]) (show l.length + 1 ≤ k by omega) h2
      constructor
      · unfold spec_l06Plain.f; rw [if_neg (by omega)]; exact h1'
      · unfold impl_areCuts.f impl_Cut_c89_88.f impl_Cut_c89_100.f
        rw [if_pos (by omega), show (0 : Int) = ((0 : Nat) : Int) from rfl, h2']
        simp only [Option.bind_some]; rw [h3]; simp
  · refine ⟨false, ⟨(fun q => by cases q), fun q => absurd q.1 h⟩, fun k hk => ⟨?_, ?_⟩⟩
    · unfold spec_l06Plain.f; rw [if_pos (by omega)]
    · unfold impl_areCuts.f; rw [if_neg (by omega)]
/-- A cut as the program has it. -/
def cv (x : S74) : S50 := ⟨x.f0, x.f1, x.f2⟩
theorem fit_cv (l : List S74) (h : F22 l) : Fit (l.map cv) := by
  intro j
  by_cases hj : j < l.length
  · have e : (l.map cv).getD j z50 = cv l[j] := by rw [List.getD_eq_getElem?_getD, List.getElem?_map, List.getElem?_eq_getElem hj]; rfl
    have hx := h.2 _ (List.getElem_mem hj)
    rw [e]; unfold cv
    obtain ⟨h0, h1, h2⟩ := hx
    exact ⟨Go.bounds_i16 h0, Go.bounds_i16 h1, Go.bounds_i8 h2⟩
  · have e : (l.map cv).getD j z50 = z50 := by rw [List.getD_eq_getElem?_getD, List.getElem?_eq_none (by simpa using hj)]; rfl
    rw [e]; unfold z50; simp
theorem toCutS_l (l : List S74) (hl : l.length ≤ 1048576) (d : Nat) : ∀ (k : Nat) (x : List S50) (i : Nat), l.length - i = d → d < k → x.length = l.length → x.take i = (l.map cv).take i → laws_toCutS.l0 k l x (i : Int) = some (l.map cv) := by
  induction d with
  | zero =>
    intro k x i hd hk hx ht
    obtain ⟨k, rfl⟩ : ∃ m, k = m + 1 := ⟨k - 1, by omega⟩
    simp only [laws_toCutS.l0]; rw [if_neg (by omega)]
    rw [List.take_of_length_le (by omega), List.take_of_length_le (by simp; omega)] at ht
    rw [ht]
  | succ d ih =>
    intro k x i hd hk hx ht
    obtain ⟨k, rfl⟩ : ∃ m, k = m + 1 := ⟨k - 1, by omega⟩
    have hi : i < l.length := by omega
    have e : rd_T74 l (i : Int) = l[i] := by unfold rd_T74; rw [Int.toNat_natCast, List.getD_eq_getElem?_getD, List.getElem?_eq_getElem hi]; rfl
    simp only [laws_toCutS.l0, laws_toCut.f, e]; rw [if_pos (by omega), if_pos (by omega)]
    simp only [Option.bind_some]; rw [if_pos (by omega), c_wrap _ (by omega) (by omega), Int.toNat_natCast, show ((i : Int) + 1) = ((i + 1 : Nat) : Int) by omega]
    refine ih k _ (i + 1) (by omega) (by omega) (by rw [List.length_set]; exact hx) ?_
    have h' : i < (x.set i (⟨l[i].f0, l[i].f1, l[i].f2⟩ : S50)).length := by rw [List.length_set]; omega
    rw [List.take_succ_eq_append_getElem h', List.getElem_set_self, List.take_set_of_le (Nat.le_refl i), ht, List.take_succ_eq_append_getElem (by simpa using hi), List.getElem_map]; rfl
theorem toCutS_t (l : List S74) (hl : l.length ≤ 1048576) (k : Nat) (hk : l.length < k) : laws_toCutS.f k l = some (l.map cv) := by
  unfold laws_toCutS.f
  rw [if_pos (by omega), if_pos (by omega), Int.toNat_natCast]
  exact toCutS_l l hl l.length k _ 0 (by omega) hk (by simp) rfl
theorem eqCutS_l (l : List S50) (hl : l.length ≤ 1048576) (d : Nat) : ∀ (k : Nat) (i : Nat), l.length - i = d → d < k → laws_eqCutS.l0 k l l (i : Int) = some true := by
  induction d with
  | zero =>
    intro k i hd hk
    obtain ⟨k, rfl⟩ : ∃ m, k = m + 1 := ⟨k - 1, by omega⟩
    simp only [laws_eqCutS.l0]; rw [if_neg (by omega)]
  | succ d ih =>
    intro k i hd hk
    obtain ⟨k, rfl⟩ : ∃ m, k = m + 1 := ⟨k - 1, by omega⟩
    simp only [laws_eqCutS.l0, laws_eqCut.f]; rw [if_pos (by omega), if_pos (by omega), if_pos (by omega)]
    simp only [if_true, Option.bind_some]
    rw [c_wrap _ (by omega) (by omega), show ((i : Int) + 1) = ((i + 1 : Nat) : Int) by omega]
    exact ih k (i + 1) (by omega) (by omega)
theorem eqCutS_t (l : List S50) (hl : l.length ≤ 1048576) (k : Nat) (hk : l.length < k) : laws_eqCutS.f k l l = some true := by
  unfold laws_eqCutS.f
  rw [if_pos rfl, show (0 : Int) = ((0 : Nat) : Int) from rfl]
  exact eqCutS_l l hl l.length k 0 (by omega) hk
theorem laws_toCutter_l (l : List Int) (hl : l.length ≤ 140737488355328) (d : Nat) : ∀ (k : Nat) (x : List Int) (i : Nat), l.length - i = d → d < k → x.length = l.length → x.take i = l.take i → laws_toCutter.l0 k l x (i : Int) = some l := by
  induction d with
  | zero =>
    intro k x i hd hk hx ht
    obtain ⟨k, rfl⟩ : ∃ m, k = m + 1 := ⟨k - 1, by omega⟩
    simp only [laws_toCutter.l0]; rw [if_neg (by omega)]
    rw [List.take_of_length_le (by omega), List.take_of_length_le (by omega)] at ht
    rw [ht]
  | succ d ih =>
    intro k x i hd hk hx ht
    obtain ⟨k, rfl⟩ : ∃ m, k = m + 1 := ⟨k - 1, by omega⟩
    simp only [laws_toCutter.l0]; rw [if_pos (by omega), if_pos (by omega), if_pos (by omega)]
    rw [b_wrap _ (by omega) (by omega), b_rd l i (by omega), Int.toNat_natCast]
    rw [show ((i : Int) + 1) = ((i + 1 : Nat) : Int) by omega]
    refine ih k _ (i + 1) (by omega) (by omega) (by rw [List.length_set]; exact hx) ?_
    rw [b_set x i _ (by omega), b_take l i (by omega), ht]

theorem laws_toCutter_t (l : List Int) (hl : l.length ≤ 1048576) (k : Nat) (hk : l.length < k) : laws_toCutter.f k l = some l := by
  unfold laws_toCutter.f
  rw [if_pos (by omega), if_pos (by omega), Int.toNat_natCast]
  exact laws_toCutter_l l (by omega) l.length k _ 0 (by omega) hk (by simp) rfl
theorem laws_eqCutter_l (l : List Int) (hl : l.length ≤ 1048576) (d : Nat) : ∀ (k : Nat) (i : Nat), l.length - i = d → d < k → laws_eqCutter.l0 k l l (i : Int) = some true := by
  induction d with
  | zero =>
    intro k i hd hk
    obtain ⟨k, rfl⟩ : ∃ m, k = m + 1 := ⟨k - 1, by omega⟩
    simp only [laws_eqCutter.l0]; rw [if_neg (by omega)]
  | succ d ih =>
    intro k i hd hk
    obtain ⟨k, rfl⟩ : ∃ m, k = m + 1 := ⟨k - 1, by omega⟩
    simp only [laws_eqCutter.l0]; rw [if_pos (by omega), if_pos (by omega), if_pos (by omega), if_pos trivial]
    rw [b_wrap _ (by omega) (by omega), show ((i : Int) + 1) = ((i + 1 : Nat) : Int) by omega]
    exact ih k (i + 1) (by omega) (by omega)

theorem laws_eqCutter_t (l : List Int) (hl : l.length ≤ 1048576) (k : Nat) (hk : l.length < k) : laws_eqCutter.f k l l = some true := by
  unfold laws_eqCutter.f
  rw [if_pos rfl]
  exact laws_eqCutter_l l hl l.length k 0 (by omega) hk
theorem b_rdN (x : List Int) (j : Nat) : rd x (j : Int) = x.getD j 0 := by unfold rd; rw [Int.toNat_natCast]

def SP (x : List Int) (j : Nat) : Prop := (0 ≤ x.getD j 0 ∧ x.getD j 0 ≤ 10000) ∧ x.getD (x.length - 1 - j) 0 = x.getD j 0 ∧ (0 < j → ¬ x.getD (j - 1) 0 < x.getD j 0)
def IP (x : List Int) (j : Nat) : Prop := (0 ≤ x.getD j 0 ∧ x.getD j 0 ≤ 10000) ∧ x.getD j 0 = x.getD (x.length - 1 - j) 0 ∧ (x.length / 2 < j → ¬ x.getD j 0 < x.getD (j - 1) 0)

theorem spec_loop (x : List Int) (hx : x.length ≤ 31) (h0 : 0 < x.length) (hb : ∀ j : Nat, -32768 ≤ x.getD j 0 ∧ x.getD j 0 ≤ 32767) (d : Nat) : ∀ (k i : Nat), x.length / 2 + 1 - i = d → d < k →
    ∃ r, spec_l06Ok.l0 k x (x.length : Int) (i : Int) = some r ∧ (r = true ↔ ∀ j, i ≤ j → j ≤ x.length / 2 → SP x j) := by
  induction d with
  | zero =>
    intro k i hd hk
    obtain ⟨k, rfl⟩ : ∃ m, k = m + 1 := ⟨k - 1, by omega⟩
    refine ⟨true, ?_, by simp; intro j h1 h2; omega⟩
    have ht : Int.tdiv (x.length : Int) 2 = ((x.length / 2 : Nat) : Int) := rfl
    simp only [spec_l06Ok.l0]; rw [ht, b_wrap _ (by omega) (by omega), if_neg (by omega)]
  | succ d ih =>
    intro k i hd hk
    obtain ⟨k, rfl⟩ : ∃ m, k = m + 1 := ⟨k - 1, by omega⟩
    have ht : Int.tdiv (x.length : Int) 2 = ((x.length / 2 : Nat) : Int) := rfl
    have hbi := hb i
    obtain ⟨r, hr, hrt⟩ := ih k (i + 1) (by omega) (by omega)
    have hnext : spec_l06Ok.l0 k x (x.length : Int) (wrap64 ((i : Int) + 1)) = some r := by
      rw [b_wrap _ (by omega) (by omega), show ((i : Int) + 1) = ((i + 1 : Nat) : Int) by omega]; exact hr
    have step : ∀ (Q : Prop), (SP x i ↔ Q) → Q → (r = true ↔ ∀ j, i ≤ j → j ≤ x.length / 2 → SP x j) := by
      intro Q e q
      rw [hrt]
      refine ⟨fun h j h1 h2 => ?_, fun h j h1 h2 => h j (by omega) h2⟩
      by_cases c : j = i
      · subst c; exact e.mpr q
      · exact h j (by omega) h2
    have stop : ¬ SP x i → ((false : Bool) = true ↔ ∀ j, i ≤ j → j ≤ x.length / 2 → SP x j) :=
      fun h => ⟨(fun e => by cases e), fun e => absurd (e i (Nat.le_refl _) (by omega)) h⟩
    simp only [spec_l06Ok.l0]; rw [ht, b_wrap ((x.length / 2 : Nat) : Int) (by omega) (by omega), if_pos (by omega), if_pos (by omega), if_pos (by omega), b_rdN, b_wrap _ (by omega) (by omega)]
    unfold spec_l01Lift.f
    simp only [spec_l00In_t, Option.bind_some]
    by_cases c1 : 0 ≤ x.getD i 0 ∧ x.getD i 0 ≤ 10000
    · rw [if_pos (by simpa using c1)]
      rw [b_wrap ((x.length : Int) - 1) (by omega) (by omega), b_wrap _ (by omega) (by omega), if_pos (by omega), if_pos (by omega), show ((x.length : Int) - 1 - (i : Int)) = ((x.length - 1 - i : Nat) : Int) by omega, b_rdN]
      by_cases c2 : x.getD (x.length - 1 - i) 0 = x.getD i 0
      · rw [if_pos c2]
        by_cases c3 : (i : Int) > 0
        · rw [if_pos c3, b_wrap _ (by omega) (by omega), if_pos (by omega), if_pos (by omega), show ((i : Int) - 1) = ((i - 1 : Nat) : Int) by omega, b_rdN]
          by_cases c4 : x.getD (i - 1) 0 < x.getD i 0
          · rw [if_pos c4]; exact ⟨false, rfl, stop (fun h => h.2.2 (by omega) c4)⟩
          · rw [if_neg c4]; exact ⟨r, hnext, step True ⟨fun _ => trivial, fun _ => ⟨c1, c2, fun _ => c4⟩⟩ trivial⟩
        · rw [if_neg c3]; exact ⟨r, hnext, step True ⟨fun _ => trivial, fun _ => ⟨c1, c2, fun h => by omega⟩⟩ trivial⟩
      · rw [if_neg c2]; exact ⟨false, rfl, stop (fun h => c2 h.2.1)⟩
    · rw [if_neg (by simpa using c1)]; exact ⟨false, rfl, stop (fun h => c1 h.1)⟩

theorem impl_loop (x : List Int) (hx : x.length ≤ 31) (h0 : 0 < x.length) (hb : ∀ j : Nat, -32768 ≤ x.getD j 0 ∧ x.getD j 0 ≤ 32767) (d : Nat) : ∀ (k i : Nat), x.length - i = d → d < k →
    ∃ r, impl_ValidCutter.l0 k x (x.length : Int) x (x.length : Int) (i : Int) = some r ∧ (r = true ↔ ∀ j, i ≤ j → j < x.length → IP x j) := by
  induction d with
  | zero =>
    intro k i hd hk
    obtain ⟨k, rfl⟩ : ∃ m, k = m + 1 := ⟨k - 1, by omega⟩
    refine ⟨true, ?_, by simp; intro j h1 h2; omega⟩
    simp only [impl_ValidCutter.l0]; rw [if_neg (by omega)]
  | succ d ih =>
    intro k i hd hk
    obtain ⟨k, rfl⟩ : ∃ m, k = m + 1 := ⟨k - 1, by omega⟩
    have ht : Int.tdiv (x.length : Int) 2 = ((x.length / 2 : Nat) : Int) := rfl
    have hbi := hb i
    obtain ⟨r, hr, hrt⟩ := ih k (i + 1) (by omega) (by omega)
    have hnext : impl_ValidCutter.l0 k x (x.length : Int) x (x.length : Int) (wrap64 ((i : Int) + 1)) = some r := by
      rw [b_wrap _ (by omega) (by omega), show ((i : Int) + 1) = ((i + 1 : Nat) : Int) by omega]; exact hr
    have step : ∀ (Q : Prop), (IP x i ↔ Q) → Q → (r = true ↔ ∀ j, i ≤ j → j < x.length → IP x j) := by
      intro Q e q
      rw [hrt]
      refine ⟨fun h j h1 h2 => ?_, fun h j h1 h2 => h j (by omega) h2⟩
      by_cases c : j = i
      · subst c; exact e.mpr q
      · exact h j (by omega) h2
    have stop : ¬ IP x i → ((false : Bool) = true ↔ ∀ j, i ≤ j → j < x.length → IP x j) :=
      fun h => ⟨(fun e => by cases e), fun e => absurd (e i (Nat.le_refl _) (by omega)) h⟩
    simp only [impl_ValidCutter.l0]; rw [if_pos (by omega), if_pos (by omega), if_pos (by omega), b_rdN, b_wrap (x.getD i 0) (by omega) (by omega)]
    unfold impl_isLift.f
    simp only [impl_inRange_t, Option.bind_some]
    by_cases c1 : 0 ≤ x.getD i 0 ∧ x.getD i 0 ≤ 10000
    · rw [if_pos (by simpa using c1)]
      rw [b_wrap ((x.length : Int) - 1) (by omega) (by omega), b_wrap ((x.length : Int) - 1 - (i : Int)) (by omega) (by omega), if_pos (by omega), if_pos (by omega), show ((x.length : Int) - 1 - (i : Int)) = ((x.length - 1 - i : Nat) : Int) by omega, b_rdN]
      by_cases c2 : x.getD i 0 = x.getD (x.length - 1 - i) 0
      · rw [if_pos c2, ht, b_wrap ((x.length / 2 : Nat) : Int) (by omega) (by omega)]
        by_cases c3 : (i : Int) > ((x.length / 2 : Nat) : Int)
        · rw [if_pos c3, b_wrap _ (by omega) (by omega), if_pos (by omega), if_pos (by omega), show ((i : Int) - 1) = ((i - 1 : Nat) : Int) by omega, b_rdN]
          by_cases c4 : x.getD i 0 < x.getD (i - 1) 0
          · rw [if_pos c4]; exact ⟨false, rfl, stop (fun h => h.2.2 (by omega) c4)⟩
          · rw [if_neg c4]; exact ⟨r, hnext, step True ⟨fun _ => trivial, fun _ => ⟨c1, c2, fun _ => c4⟩⟩ trivial⟩
        · rw [if_neg c3]; exact ⟨r, hnext, step True ⟨fun _ => trivial, fun _ => ⟨c1, c2, fun h => by omega⟩⟩ trivial⟩
      · rw [if_neg c2]; exact ⟨false, rfl, stop (fun h => c2 h.2.1)⟩
    · rw [if_neg (by simpa using c1)]; exact ⟨false, rfl, stop (fun h => c1 h.1)⟩

theorem both (x : List Int) (hx : x.length ≤ 31) (h0 : x.length % 2 = 1) : (∀ j, 0 ≤ j → j ≤ x.length / 2 → SP x j) ↔ (∀ j, 0 ≤ j → j < x.length → IP x j) := by
  constructor
  · intro h j _ hj
    by_cases c : j ≤ x.length / 2
    · have a := h j (by omega) c
      exact ⟨a.1, a.2.1.symm, fun q => by omega⟩
    · have a := h (x.length - 1 - j) (by omega) (by omega)
      have b := h (x.length - 1 - j + 1) (by omega) (by omega)
      rw [SP] at a b
      rw [show x.length - 1 - (x.length - 1 - j) = j by omega] at a
      rw [show x.length - 1 - (x.length - 1 - j + 1) = j - 1 by omega, show x.length - 1 - j + 1 - 1 = x.length - 1 - j by omega] at b
      refine ⟨by rw [a.2.1]; exact a.1, a.2.1, fun _ => ?_⟩
      rw [a.2.1, b.2.1]
      have := b.2.2 (by omega)
      omega
  · intro h j _ hj
    have a := h j (by omega) (by omega)
    refine ⟨a.1, a.2.1.symm, fun q => ?_⟩
    have b := h (x.length - 1 - j + 1) (by omega) (by omega)
    rw [IP] at a b
    rw [show x.length - 1 - (x.length - 1 - j + 1) = j - 1 by omega, show x.length - 1 - j + 1 - 1 = x.length - 1 - j by omega] at b
    rw [a.2.1, ← b.2.1]
    have := b.2.2 (by omega)
    omega

/-- What a valid cutter is. -/
def Cut (x : List Int) : Prop := (1 ≤ x.length ∧ x.length ≤ 31) ∧ x.length % 2 = 1 ∧ x.getD (x.length / 2) 0 = 0 ∧ ∀ j, j < x.length → 0 ≤ x.getD j 0 ∧ x.getD j 0 ≤ 10000

theorem cutter_k (x : List Int) (hb : ∀ j : Nat, -32768 ≤ x.getD j 0 ∧ x.getD j 0 ≤ 32767) (k : Nat) (hk : 40 ≤ k) : ∃ r, (r = true → Cut x) ∧ spec_l06Ok.f k x = some r ∧ impl_ValidCutter.f k x = some r := by
  obtain ⟨k, rfl⟩ : ∃ m, k = m + 1 := ⟨k - 1, by omega⟩
  unfold spec_l06Ok.f impl_ValidCutter.f
  simp only [spec_l00In_t, Option.bind_some]
  by_cases c1 : (1 : Int) ≤ (x.length : Int) ∧ (x.length : Int) ≤ 31
  · rw [if_pos (by simpa using c1)]
    by_cases c2 : (x.length : Int) % 2 = 0
    · rw [if_pos c2, if_pos c2]
      simp only [spec_l06Ok.j0, impl_ValidCutter.j0, if_true]; exact ⟨false, (fun h => by cases h), rfl, rfl⟩
    · have e1 : ¬ (x.length : Int) > 31 := by omega
      have e2 : 0 ≤ (x.length : Int) / 2 := by omega
      have e3 : (x.length : Int) / 2 < (x.length : Int) := by omega
      simp only [if_neg c2, if_neg e1, b_wrap ((x.length : Int) / 2) (by omega) (by omega), if_pos e2, if_pos e3]
      simp only [spec_l06Ok.j0, impl_ValidCutter.j0]
      by_cases c3 : (rd x ((x.length : Int) / 2) != 0) = true
      · rw [if_pos c3, if_pos c3]; exact ⟨false, (fun h => by cases h), rfl, rfl⟩
      · rw [if_neg c3, if_neg c3]
        obtain ⟨r, h1, h2⟩ := spec_loop x (by omega) (by omega) hb (x.length / 2 + 1) k 0 (by omega) (by omega)
        obtain ⟨q, h3, h4⟩ := impl_loop x (by omega) (by omega) hb x.length k 0 (by omega) (by omega)
        have e : r = q := by
          rw [both x (by omega) (by omega), ← h4] at h2
          exact Bool.eq_iff_iff.mpr h2
        subst e
        refine ⟨r, fun hr => ⟨by omega, by omega, ?_, fun j hj => ((h4.mp hr) j (Nat.zero_le _) hj).1⟩, by rw [show ((0 : Int)) = ((0 : Nat) : Int) from rfl, h1], h3⟩
        rw [show ((x.length : Int) / 2) = ((x.length / 2 : Nat) : Int) by omega, b_rdN] at c3
        simpa using c3
  · rw [if_neg (by simpa using c1)]
    simp only [spec_l06Ok.j0, if_true]
    refine ⟨false, (fun h => by cases h), rfl, ?_⟩
    by_cases c2 : (x.length : Int) % 2 = 0
    · rw [if_pos c2]; simp only [impl_ValidCutter.j0, if_true]
    · rw [if_neg c2, if_pos (by omega)]; simp only [impl_ValidCutter.j0, if_true]

theorem cutter_t (x : List Int) (hb : ∀ j : Nat, -32768 ≤ x.getD j 0 ∧ x.getD j 0 ≤ 32767) : ∃ r, (r = true → Cut x) ∧ ∀ k, 40 ≤ k → spec_l06Ok.f k x = some r ∧ impl_ValidCutter.f k x = some r := by
  obtain ⟨r, h1, h2, h3⟩ := cutter_k x hb 40 (Nat.le_refl _)
  exact ⟨r, h1, fun k hk => ⟨at_rounds (spec_l06Ok.mono x) hk h2, at_rounds (impl_ValidCutter.mono x) hk h3⟩⟩

theorem rdL3 (l : List (List Int)) (i : Nat) : rd_L3 l (i : Int) = l.getD i [] := by unfold rd_L3; rw [Int.toNat_natCast]
theorem getL3 (l : List (List Int)) (i : Nat) (h : i < l.length) : l.getD i [] = l[i] := by rw [List.getD_eq_getElem?_getD, List.getElem?_eq_getElem h]; rfl

/-- What the sizes come to: too much, or all fits. -/
theorem szS_l (l : List (List Int)) (hl : l.length ≤ 140737488351232) (hs : ∀ x ∈ l, x.length ≤ 9223372036854775807) (d : Nat) : ∀ (i : Nat) (v : Int), l.length - i = d → 0 ≤ v → v ≤ 1048576 →
    (∀ k, d < k → ∃ q, laws_szCutterS.l0 k l v (i : Int) = some q ∧ q < 0) ∨ (∃ u, 0 ≤ u ∧ (∀ k, d < k → laws_szCutterS.l0 k l v (i : Int) = some u) ∧ ∀ j, i ≤ j → j < l.length → (l.getD j []).length ≤ 1048576) := by
  induction d with
  | zero =>
    intro i v hd h0 h1
    refine .inr ⟨v, h0, fun k hk => ?_, fun j h1 h2 => by omega⟩
    obtain ⟨k, rfl⟩ : ∃ m, k = m + 1 := ⟨k - 1, by omega⟩
    simp only [laws_szCutterS.l0]; rw [if_neg (by omega)]
  | succ d ih =>
    intro i v hd h0 h1
    have hi : i < l.length := by omega
    have hx := hs _ (List.getElem_mem hi)
    have w : wrap64 (v - ((l.getD i []).length : Int)) = v - ((l.getD i []).length : Int) := by rw [getL3 l i hi]; exact b_wrap _ (by omega) (by omega)
    have w1 : wrap64 ((i : Int) + 1) = ((i + 1 : Nat) : Int) := by rw [b_wrap _ (by omega) (by omega)]; omega
    by_cases c : v - ((l.getD i []).length : Int) < 0
    · refine .inl (fun k hk => ⟨-1, ?_, by omega⟩)
      obtain ⟨k, rfl⟩ : ∃ m, k = m + 1 := ⟨k - 1, by omega⟩
      simp only [laws_szCutterS.l0, laws_szCutter.f, rdL3, w]
      rw [if_pos (by omega), if_pos (by omega), if_pos c]; simp
    · have step : ∀ k, laws_szCutterS.l0 (k + 1) l v (i : Int) = laws_szCutterS.l0 k l (v - ((l.getD i []).length : Int)) ((i + 1 : Nat) : Int) := by
        intro k
        simp only [laws_szCutterS.l0, laws_szCutter.f, rdL3, w, w1]
        rw [if_pos (by omega), if_pos (by omega), if_neg c]
        simp only [Option.bind_some]; rw [if_neg c]
      rcases ih (i + 1) (v - ((l.getD i []).length : Int)) (by omega) (by omega) (by omega) with h | ⟨u, hu, h, hall⟩
      · refine .inl (fun k hk => ?_)
        obtain ⟨k, rfl⟩ : ∃ m, k = m + 1 := ⟨k - 1, by omega⟩
        rw [step]; exact h k (by omega)
      · refine .inr ⟨u, hu, fun k hk => ?_, fun j j1 j2 => ?_⟩
        · obtain ⟨k, rfl⟩ : ∃ m, k = m + 1 := ⟨k - 1, by omega⟩
          rw [step]; exact h k (by omega)
        · by_cases e : j = i
          · subst e; omega
          · exact hall j (by omega) j2

theorem toS_l (l : List (List Int)) (hl : l.length ≤ 1048576) (hs : ∀ j, j < l.length → (l.getD j []).length ≤ 1048576) (d : Nat) : ∀ (k : Nat) (x : List (List Int)) (i : Nat), l.length - i = d → d + 1048577 < k → x.length = l.length → x.take i = l.take i → laws_toCutterS.l0 k l x (i : Int) = some l := by
  induction d with
  | zero =>
    intro k x i hd hk hx ht
    obtain ⟨k, rfl⟩ : ∃ m, k = m + 1 := ⟨k - 1, by omega⟩
    simp only [laws_toCutterS.l0]; rw [if_neg (by omega)]
    rw [List.take_of_length_le (by omega), List.take_of_length_le (by omega)] at ht
    rw [ht]
  | succ d ih =>
    intro k x i hd hk hx ht
    obtain ⟨k, rfl⟩ : ∃ m, k = m + 1 := ⟨k - 1, by omega⟩
    have hi : i < l.length := by omega
    have w1 : wrap64 ((i : Int) + 1) = ((i + 1 : Nat) : Int) := by rw [b_wrap _ (by omega) (by omega)]; omega
    have e := laws_toCutter_t (l.getD i []) (hs i hi) k (by have := hs i hi; omega)
    simp only [laws_toCutterS.l0, rdL3, w1, e, Option.bind_some]
    rw [if_pos (by omega), if_pos (by omega), if_pos (by omega), Int.toNat_natCast]
    refine ih k _ (i + 1) (by omega) (by omega) (by rw [List.length_set]; exact hx) ?_
    have h' : i < (x.set i (l.getD i [])).length := by rw [List.length_set]; omega
    rw [List.take_succ_eq_append_getElem h', List.getElem_set_self, List.take_set_of_le (Nat.le_refl i), ht, List.take_succ_eq_append_getElem hi, getL3 l i hi]
theorem toS_t (l : List (List Int)) (hl : l.length ≤ 1048576) (hs : ∀ j, j < l.length → (l.getD j []).length ≤ 1048576) (k : Nat) (hk : l.length + 1048577 < k) : laws_toCutterS.f k l = some l := by
  unfold laws_toCutterS.f
  rw [if_pos (by omega), if_pos (by omega), Int.toNat_natCast]
  exact toS_l l hl hs l.length k _ 0 (by omega) hk (by simp) rfl
theorem eqS_l (l : List (List Int)) (hl : l.length ≤ 1048576) (hs : ∀ j, j < l.length → (l.getD j []).length ≤ 1048576) (d : Nat) : ∀ (k i : Nat), l.length - i = d → d + 1048577 < k → laws_eqCutterS.l0 k l l (i : Int) = some true := by
  induction d with
  | zero =>
    intro k i hd hk
    obtain ⟨k, rfl⟩ : ∃ m, k = m + 1 := ⟨k - 1, by omega⟩
    simp only [laws_eqCutterS.l0]; rw [if_neg (by omega)]
  | succ d ih =>
    intro k i hd hk
    obtain ⟨k, rfl⟩ : ∃ m, k = m + 1 := ⟨k - 1, by omega⟩
    have hi : i < l.length := by omega
    have w1 : wrap64 ((i : Int) + 1) = ((i + 1 : Nat) : Int) := by rw [b_wrap _ (by omega) (by omega)]; omega
    have e := laws_eqCutter_t (l.getD i []) (hs i hi) k (by have := hs i hi; omega)
    simp only [laws_eqCutterS.l0, rdL3, w1, e, Option.bind_some, if_true]
    rw [if_pos (by omega), if_pos (by omega), if_pos (by omega)]
    exact ih k (i + 1) (by omega) (by omega)
theorem eqS_t (l : List (List Int)) (hl : l.length ≤ 1048576) (hs : ∀ j, j < l.length → (l.getD j []).length ≤ 1048576) (k : Nat) (hk : l.length + 1048577 < k) : laws_eqCutterS.f k l l = some true := by
  unfold laws_eqCutterS.f
  rw [if_pos rfl, show (0 : Int) = ((0 : Nat) : Int) from rfl]
  exact eqS_l l hl hs l.length k 0 (by omega) hk

theorem cutters_l (l : List (List Int)) (hl : l.length ≤ 1048576) (hb : ∀ i, i < l.length → ∀ j : Nat, -32768 ≤ (l.getD i []).getD j 0 ∧ (l.getD i []).getD j 0 ≤ 32767) (d : Nat) : ∀ (i : Nat), l.length - i = d →
    ∃ r v, (∀ k, d + 40 < k → spec_l06Cutters.l0 k l (i : Int) = some r ∧ impl_Cutter_c86_99.l0 k l (l.length : Int) (i : Int) = some v) ∧ r = !(decide (v ≥ 0)) := by
  induction d with
  | zero =>
    intro i hd
    refine ⟨true, -1, fun k hk => ?_, by simp⟩
    obtain ⟨k, rfl⟩ : ∃ m, k = m + 1 := ⟨k - 1, by omega⟩
    simp only [spec_l06Cutters.l0, impl_Cutter_c86_99.l0]
    rw [if_neg (by omega), if_neg (by omega)]; exact ⟨rfl, rfl⟩
  | succ d ih =>
    intro i hd
    have hi : i < l.length := by omega
    have w1 : wrap64 ((i : Int) + 1) = ((i + 1 : Nat) : Int) := by rw [b_wrap _ (by omega) (by omega)]; omega
    obtain ⟨r, _, hr⟩ := cutter_t (l.getD i []) (hb i hi)
    obtain ⟨r2, v2, h2, e2⟩ := ih (i + 1) (by omega)
    cases r with
    | true =>
      refine ⟨r2, v2, fun k hk => ?_, e2⟩
      obtain ⟨k, rfl⟩ : ∃ m, k = m + 1 := ⟨k - 1, by omega⟩
      obtain ⟨s, m⟩ := hr k (by omega)
      obtain ⟨g1, g2⟩ := h2 k (by omega)
      simp only [spec_l06Cutters.l0, impl_Cutter_c86_99.l0, impl_areCutters_1.f, rdL3, w1, s, m, Option.bind_some, if_true, Bool.not_true, Bool.false_eq_true, if_false]
      have p1 : (i : Int) < (l.length : Int) := by omega
      have p2 : 0 ≤ (i : Int) := by omega
      simp only [if_pos p1, if_pos p2]; exact ⟨g1, g2⟩
    | false =>
      refine ⟨false, (i : Int), fun k hk => ?_, by simp⟩
      obtain ⟨k, rfl⟩ : ∃ m, k = m + 1 := ⟨k - 1, by omega⟩
      obtain ⟨s, m⟩ := hr k (by omega)
      simp only [spec_l06Cutters.l0, impl_Cutter_c86_99.l0, impl_areCutters_1.f, rdL3, w1, s, m, Option.bind_some, if_true, Bool.not_false, Bool.false_eq_true, if_false]
      have p1 : (i : Int) < (l.length : Int) := by omega
      have p2 : 0 ≤ (i : Int) := by omega
      simp only [if_pos p1, if_pos p2]; exact ⟨trivial, trivial⟩

theorem valid2 (l0 : List S50) (h0 : l0.length ≤ 1048576) (hF : Fit l0) (l : List (List Int)) (hl : l.length ≤ 1048576) (hb : ∀ i, i < l.length → ∀ j : Nat, -32768 ≤ (l.getD i []).getD j 0 ∧ (l.getD i []).getD j 0 ≤ 32767) :
    ∃ r, ∀ k, l0.length + l.length + 50 < k → spec_ValidCuts.f k l0 l = some r ∧ impl_ValidCuts.f k l0 l = some r := by
  by_cases c : 1 ≤ (l.length : Int) ∧ (l.length : Int) ≤ 8
  · obtain ⟨r, v, h1, e1⟩ := cutters_l l hl hb l.length 0 (by omega)
    obtain ⟨b, _, h2⟩ := plain_t l0 h0 hF (l.length : Int) (by omega)
    refine ⟨if r = true then b else false, fun k hk => ?_⟩
    obtain ⟨s1, m1⟩ := h1 k (by omega)
    obtain ⟨s2, m2⟩ := h2 k (by omega)
    constructor
    · unfold spec_ValidCuts.f spec_l06Cuts.f spec_l06Some.f spec_l06Cutters.f
      simp only [spec_l00In_t, decide_eq_true c, Option.bind_some, if_true]
      rw [show (0 : Int) = ((0 : Nat) : Int) from rfl, s1]
      simp only [Option.bind_some]
      cases r <;> simp [s2]
    · unfold impl_ValidCuts.f impl_isCount.f impl_areCutters.f impl_Cutter_c86_85.f impl_Cutter_c86_99.f
      simp only [impl_inRange_t, decide_eq_true c, Option.bind_some, if_true]
      rw [show (0 : Int) = ((0 : Nat) : Int) from rfl, m1]
      simp only [Option.bind_some]
      rw [show (!decide (v ≥ ((0 : Nat) : Int))) = r from e1.symm]
      cases r <;> simp [m2]
  · refine ⟨false, fun k hk => ⟨?_, ?_⟩⟩
    · unfold spec_ValidCuts.f spec_l06Cuts.f spec_l06Some.f
      simp only [spec_l00In_t, decide_eq_false c, Option.bind_some, Bool.false_eq_true, if_false]
    · unfold impl_ValidCuts.f impl_isCount.f
      simp only [impl_inRange_t, decide_eq_false c, Option.bind_some, Bool.false_eq_true, if_false]

theorem FnExactValidCuts (l0 : List S74) (l1 : List (List Int)) (hF0 : F22 l0) (y0 : l0.length * by_74 ≤ 140737488351232) (hF1 : F30 l1) (y1 : l1.length * by_78 ≤ 140737488351232) : ∃ k, laws_FnExactValidCuts.f k l0 l1 = some true := by
  have y0' : l0.length * 6 ≤ 140737488351232 := y0
  have y1' : l1.length * 24 ≤ 140737488351232 := y1
  have hw : wrap64 (1048576 - (l0.length : Int)) = 1048576 - (l0.length : Int) := c_wrap _ (by omega) (by omega)
  by_cases h : 1048576 - (l0.length : Int) < 0
  · refine ⟨1, ?_⟩
    unfold laws_FnExactValidCuts.f laws_szCutS.f
    rw [hw, if_pos h]; simp
  have hl : l0.length ≤ 1048576 := by omega
  have hw2 : wrap64 (1048576 - (l0.length : Int) - (l1.length : Int)) = 1048576 - (l0.length : Int) - (l1.length : Int) := c_wrap _ (by omega) (by omega)
  by_cases h2 : 1048576 - (l0.length : Int) - (l1.length : Int) < 0
  · refine ⟨1, ?_⟩
    unfold laws_FnExactValidCuts.f laws_szCutS.f laws_szCutterS.f
    rw [hw, if_neg h]
    simp only [Option.bind_some]
    rw [if_neg h, hw2, if_pos h2]; simp
  have hl1 : l1.length ≤ 1048576 := by omega
  have hs0 : ∀ x ∈ l1, x.length ≤ 9223372036854775807 := fun x hx => by have := (hF1.2 x hx).1; unfold maxLen at this; omega
  rcases szS_l l1 (by omega) hs0 l1.length 0 (1048576 - (l0.length : Int) - (l1.length : Int)) (by omega) (by omega) (by omega) with hz | ⟨u, hu, hz, hs⟩
  · obtain ⟨q, hq, hq0⟩ := hz (l1.length + 1) (by omega)
    refine ⟨l1.length + 1, ?_⟩
    unfold laws_FnExactValidCuts.f laws_szCutS.f laws_szCutterS.f
    rw [hw, if_neg h]
    simp only [Option.bind_some]
    rw [if_neg h, hw2, if_neg h2, show (0 : Int) = ((0 : Nat) : Int) from rfl, hq]
    simp only [Option.bind_some]; rw [if_pos (show q < ((0 : Nat) : Int) by omega)]
  · have hl2 : (l0.map cv).length ≤ 1048576 := by simpa using hl
    have hsz : ∀ j, j < l1.length → (l1.getD j []).length ≤ 1048576 := fun j hj => hs j (by omega) hj
    have hb : ∀ i, i < l1.length → ∀ j : Nat, -32768 ≤ (l1.getD i []).getD j 0 ∧ (l1.getD i []).getD j 0 ≤ 32767 := fun i hi j => by
      rw [getL3 l1 i hi]
      have hx := (hF1.2 _ (List.getElem_mem hi)).2
      by_cases hj : j < (l1[i]).length
      · rw [List.getD_eq_getElem?_getD, List.getElem?_eq_getElem hj]
        exact Go.bounds_i16 (hx _ (List.getElem_mem hj))
      · rw [List.getD_eq_getElem?_getD, List.getElem?_eq_none (by omega)]; simp
    obtain ⟨r, hr⟩ := valid2 (l0.map cv) hl2 (fit_cv l0 hF0) l1 hl1 hb
    obtain ⟨k, hk⟩ : ∃ k, k = l0.length + l1.length + 1048700 := ⟨_, rfl⟩
    refine ⟨k, ?_⟩
    obtain ⟨s, i⟩ := hr k (by simp; omega)
    have e1 := toCutS_t l0 hl k (by omega)
    have e2 := toS_t l1 hl1 hsz k (by omega)
    have e3 := eqCutS_t (l0.map cv) hl2 k (by simp; omega)
    have e4 := eqS_t l1 hl1 hsz k (by omega)
    have e5 := hz k (by omega)
    unfold laws_FnExactValidCuts.f laws_szCutS.f laws_szCutterS.f
    rw [hw, if_neg h]
    simp only [Option.bind_some]
    rw [if_neg h, hw2, if_neg h2, show laws_szCutterS.l0 k l1 (1048576 - (l0.length : Int) - (l1.length : Int)) 0 = some u from e5]
    simp only [Option.bind_some]
    rw [if_neg (by omega)]
    simp only [e1, e2, Option.bind_some, s, i, bne_self_eq_false, Bool.false_eq_true, if_false, e3, if_true, e4]

end Go.Proofs.Ytpkhneodcndlpaa.Pure
