/- The pure statement of the law FnExactPlanSteps is proved: for every input that the law speaks of, the law's function answers true. No conditions beyond the statement's own. -/
import Derived.Test.YtpkhneodcndlpaaFFnExactPlanStepsx
namespace Go.Proofs.Ytpkhneodcndlpaa.Pure
open Go.RowKit Go.Proofs.Ytpkhneodcndlpaa.FFnExactPlanSteps Go.Proofs.YtpkhneodcndlpaaW.PrintWords Go.Proofs.YtpkhneodcndlpaaW.PrintLast
set_option linter.unusedVariables false

theorem b_wrap (x : Int) (h : -9223372036854775808 ≤ x) (h' : x ≤ 9223372036854775807) : wrap64 x = x := by
  unfold wrap64; omega

theorem b_rd (l : List Int) (i : Nat) (h : i < l.length) : rd l (i : Int) = l[i] := by
  unfold rd; rw [List.getD_eq_getElem?_getD, Int.toNat_natCast, List.getElem?_eq_getElem h]; rfl

theorem b_take (l : List Int) (i : Nat) (h : i < l.length) : l.take (i + 1) = l.take i ++ [l[i]] := by
  rw [List.take_succ_eq_append_getElem h]

theorem b_set (x : List Int) (i : Nat) (v : Int) (h : i < x.length) : (x.set i v).take (i + 1) = x.take i ++ [v] := by
  have h' : i < (x.set i v).length := by rw [List.length_set]; exact h
  rw [List.take_succ_eq_append_getElem h', List.getElem_set_self, List.take_set_of_le (Nat.le_refl i)]
set_option linter.unusedSectionVars false
theorem laws_toInt64S_l (l : List Int) (hl : l.length ≤ 140737488355328) (d : Nat) : ∀ (k : Nat) (x : List Int) (i : Nat), l.length - i = d → d < k → x.length = l.length → x.take i = l.take i → laws_toInt64S.l0 k l x (i : Int) = some l := by
  induction d with
  | zero =>
    intro k x i hd hk hx ht
    obtain ⟨k, rfl⟩ : ∃ m, k = m + 1 := ⟨k - 1, by omega⟩
    simp only [laws_toInt64S.l0]; rw [if_neg (by omega)]
    rw [List.take_of_length_le (by omega), List.take_of_length_le (by omega)] at ht
    rw [ht]
  | succ d ih =>
    intro k x i hd hk hx ht
    obtain ⟨k, rfl⟩ : ∃ m, k = m + 1 := ⟨k - 1, by omega⟩
    simp only [laws_toInt64S.l0]; rw [if_pos (by omega), if_pos (by omega), if_pos (by omega)]
    rw [b_wrap _ (by omega) (by omega), b_rd l i (by omega), Int.toNat_natCast]
    rw [show ((i : Int) + 1) = ((i + 1 : Nat) : Int) by omega]
    refine ih k _ (i + 1) (by omega) (by omega) (by rw [List.length_set]; exact hx) ?_
    rw [b_set x i _ (by omega), b_take l i (by omega), ht]

theorem laws_toInt64S_t (l : List Int) (hl : l.length ≤ 1048576) (k : Nat) (hk : l.length < k) : laws_toInt64S.f k l = some l := by
  unfold laws_toInt64S.f
  rw [if_pos (by omega), if_pos (by omega), Int.toNat_natCast]
  exact laws_toInt64S_l l (by omega) l.length k _ 0 (by omega) hk (by simp) rfl
theorem laws_eqInt64S_l (l : List Int) (hl : l.length ≤ 1048576) (d : Nat) : ∀ (k : Nat) (i : Nat), l.length - i = d → d < k → laws_eqInt64S.l0 k l l (i : Int) = some true := by
  induction d with
  | zero =>
    intro k i hd hk
    obtain ⟨k, rfl⟩ : ∃ m, k = m + 1 := ⟨k - 1, by omega⟩
    simp only [laws_eqInt64S.l0]; rw [if_neg (by omega)]
  | succ d ih =>
    intro k i hd hk
    obtain ⟨k, rfl⟩ : ∃ m, k = m + 1 := ⟨k - 1, by omega⟩
    simp only [laws_eqInt64S.l0]; rw [if_pos (by omega), if_pos (by omega), if_pos (by omega), if_pos trivial]
    rw [b_wrap _ (by omega) (by omega), show ((i : Int) + 1) = ((i + 1 : Nat) : Int) by omega]
    exact ih k (i + 1) (by omega) (by omega)

theorem laws_eqInt64S_t (l : List Int) (hl : l.length ≤ 1048576) (k : Nat) (hk : l.length < k) : laws_eqInt64S.f k l l = some true := by
  unfold laws_eqInt64S.f
  rw [if_pos rfl]
  exact laws_eqInt64S_l l hl l.length k 0 (by omega) hk
theorem laws_markInt64S_l (d : Nat) : ∀ (k : Nat) (x : List Int) (a : Int) (i : Nat), x.length - i = d → x.length ≤ 1048576 → d < k → 0 ≤ a → a ≤ 4611686018427387904 - d → ∃ y, laws_markInt64S.l0 k x a (i : Int) = some (a + d, y) := by
  induction d with
  | zero =>
    intro k x a i hd hx hk ha hb
    obtain ⟨k, rfl⟩ : ∃ m, k = m + 1 := ⟨k - 1, by omega⟩
    refine ⟨x, ?_⟩
    simp only [laws_markInt64S.l0]; rw [if_neg (by omega)]; simp
  | succ d ih =>
    intro k x a i hd hx hk ha hb
    obtain ⟨k, rfl⟩ : ∃ m, k = m + 1 := ⟨k - 1, by omega⟩
    simp only [laws_markInt64S.l0]; rw [if_pos (by omega), if_pos (by omega), Int.toNat_natCast]
    rw [b_wrap _ (by omega) (by omega), b_wrap _ (by omega) (by omega), show ((i : Int) + 1) = ((i + 1 : Nat) : Int) by omega]
    obtain ⟨y, hy⟩ := ih k (x.set i a) (a + 1) (i + 1) (by rw [List.length_set]; omega) (by rw [List.length_set]; exact hx) (by omega) (by omega) (by omega)
    refine ⟨y, hy.trans ?_⟩
    congr 2; omega

theorem laws_markInt64S_o (x : List Int) (hx : x.length ≤ 1048576) : ∃ y, ∀ k, x.length < k → laws_markInt64S.f k x 1 = some (1 + (x.length : Int), y) := by
  obtain ⟨y, hy⟩ := laws_markInt64S_l x.length (x.length + 1) x 1 0 (by omega) hx (by omega) (by omega) (by omega)
  exact ⟨y, fun k hk => at_rounds (laws_markInt64S.mono x 1) (show x.length + 1 ≤ k by omega) hy⟩
theorem impl_inRange_t (a b c : Int) : impl_inRange.f a b c = some (decide (b ≤ a ∧ a ≤ c)) := by
  unfold impl_inRange.f
  by_cases h : b ≤ a
  · rw [if_pos h]; simp [h]
  · rw [if_neg h]; simp [h]
theorem spec_l00In_t (a b c : Int) : spec_l00In.f a b c = some (decide (b ≤ a ∧ a ≤ c)) := by
  unfold spec_l00In.f
  by_cases h : b ≤ a
  · rw [if_pos h]; simp [h]
  · rw [if_neg h]; simp [h]
theorem b_rdN (x : List Int) (j : Nat) : rd x (j : Int) = x.getD j 0 := by unfold rd; rw [Int.toNat_natCast]
theorem rdM (x : List S90) (i : Nat) : rd_T90 x (i : Int) = x.getD i z90 := by unfold rd_T90; rw [Int.toNat_natCast]

theorem eqM_l (l : List S90) (hl : l.length ≤ 1048576) (d : Nat) : ∀ (k i : Nat), l.length - i = d → d < k → laws_eqMotionS.l0 k l l (i : Int) = some true := by
  induction d with
  | zero =>
    intro k i hd hk
    obtain ⟨k, rfl⟩ : ∃ m, k = m + 1 := ⟨k - 1, by omega⟩
    simp only [laws_eqMotionS.l0]; rw [if_neg (by omega)]
  | succ d ih =>
    intro k i hd hk
    obtain ⟨k, rfl⟩ : ∃ m, k = m + 1 := ⟨k - 1, by omega⟩
    simp only [laws_eqMotionS.l0, laws_eqMotion.f]; rw [if_pos (by omega), if_pos (by omega), if_pos (by omega)]
    simp only [if_true, Option.bind_some]
    rw [b_wrap _ (by omega) (by omega), show ((i : Int) + 1) = ((i + 1 : Nat) : Int) by omega]
    exact ih k (i + 1) (by omega) (by omega)
theorem eqP_t (h : Int) (l : List S90) (hl : l.length ≤ 1048576) (k : Nat) (hk : l.length < k) : laws_eqProgram.f k h l h l = some true := by
  unfold laws_eqProgram.f laws_eqMotionS.f
  rw [if_pos rfl, if_pos rfl, show (0 : Int) = ((0 : Nat) : Int) from rfl, eqM_l l hl l.length k 0 (by omega) hk]; rfl

/-- What stands at a place behind the marking. -/
def mk (a : Int) : S90 := ⟨IntKind.i8.wrap a, IntKind.i16.wrap (wrap64 (a + 1)), IntKind.i16.wrap (wrap64 (wrap64 (a + 1) + 1))⟩
theorem rdSet (x : List S90) (i : Nat) (v : S90) (h : i < x.length) : rd_T90 (x.set i v) (i : Int) = v := by
  rw [rdM, List.getD_eq_getElem?_getD, List.getElem?_set_self h]; rfl
theorem markM_l (d : Nat) : ∀ (k : Nat) (x : List S90) (a : Int) (i : Nat), x.length - i = d → x.length ≤ 1048576 → d < k → 0 ≤ a → a ≤ 4611686018427387904 - 3 * d →
    ∃ y, laws_markMotionS.l0 k x a (i : Int) = some (a + 3 * d, y) ∧ y.length = x.length ∧ (∀ j, j < i → y.getD j z90 = x.getD j z90) ∧ (∀ j, i ≤ j → j < x.length → y.getD j z90 = mk (a + 3 * ((j - i : Nat) : Int))) := by
  induction d with
  | zero =>
    intro k x a i hd hx hk ha hb
    obtain ⟨k, rfl⟩ : ∃ m, k = m + 1 := ⟨k - 1, by omega⟩
    refine ⟨x, ?_, rfl, fun _ _ => rfl, fun j h1 h2 => by omega⟩
    simp only [laws_markMotionS.l0]; rw [if_neg (by omega)]; simp
  | succ d ih =>
    intro k x a i hd hx hk ha hb
    obtain ⟨k, rfl⟩ : ∃ m, k = m + 1 := ⟨k - 1, by omega⟩
    have e1 : wrap64 (wrap64 (wrap64 (a + 1) + 1) + 1) = a + 3 := by rw [b_wrap (a + 1) (by omega) (by omega), b_wrap (a + 1 + 1) (by omega) (by omega), b_wrap _ (by omega) (by omega)]; omega
    have w : wrap64 ((i : Int) + 1) = ((i + 1 : Nat) : Int) := by rw [b_wrap _ (by omega) (by omega)]; omega
    have hi : i < x.length := by omega
    obtain ⟨y, hy, hl, h1, h2⟩ := ih k (x.set i (mk a)) (a + 3) (i + 1) (by rw [List.length_set]; omega) (by rw [List.length_set]; exact hx) (by omega) (by omega) (by omega)
    refine ⟨y, ?_, by rw [hl, List.length_set], ?_, ?_⟩
    · simp only [laws_markMotionS.l0, Option.bind_some, e1, w, Int.toNat_natCast]
      rw [if_pos (by omega), if_pos (by omega)]
      have s1 : ∀ v : S90, rd_T90 (x.set i v) (i : Int) = v := fun v => rdSet x i v hi
      simp only [s1, List.set_set]
      refine hy.trans ?_
      congr 2; omega
    · intro j hj
      rw [h1 j (by omega)]
      simp only [List.getD_eq_getElem?_getD]; rw [List.getElem?_set_ne (by omega)]
    · intro j hj hj'
      by_cases e : j = i
      · subst e
        rw [h1 j (by omega)]
        simp only [List.getD_eq_getElem?_getD]; rw [List.getElem?_set_self (by omega)]; simp
      · rw [h2 j (by omega) (by rw [List.length_set]; exact hj')]
        rw [show a + 3 + 3 * ((j - (i + 1) : Nat) : Int) = a + 3 * ((j - i : Nat) : Int) by omega]
theorem heldM_l (x : List S90) (hx : x.length ≤ 1048576) (d : Nat) : ∀ (k : Nat) (a : Int) (i : Nat), x.length - i = d → d < k → 0 ≤ a → a ≤ 4611686018427387904 - 3 * d → (∀ j, i ≤ j → j < x.length → x.getD j z90 = mk (a + 3 * ((j - i : Nat) : Int))) →
    laws_heldMotionS.l0 k x a (i : Int) = some (a + 3 * d) := by
  induction d with
  | zero =>
    intro k a i hd hk ha hb h
    obtain ⟨k, rfl⟩ : ∃ m, k = m + 1 := ⟨k - 1, by omega⟩
    simp only [laws_heldMotionS.l0]; rw [if_neg (by omega)]; simp
  | succ d ih =>
    intro k a i hd hk ha hb h
    obtain ⟨k, rfl⟩ : ∃ m, k = m + 1 := ⟨k - 1, by omega⟩
    have e1 : wrap64 (wrap64 (wrap64 (a + 1) + 1) + 1) = a + 3 := by rw [b_wrap (a + 1) (by omega) (by omega), b_wrap (a + 1 + 1) (by omega) (by omega), b_wrap _ (by omega) (by omega)]; omega
    have w : wrap64 ((i : Int) + 1) = ((i + 1 : Nat) : Int) := by rw [b_wrap _ (by omega) (by omega)]; omega
    have h0 : rd_T90 x (i : Int) = mk a := by
      have := h i (Nat.le_refl _) (by omega)
      rw [rdM, this]; simp
    simp only [laws_heldMotionS.l0, h0, mk, e1, w]; rw [if_pos (by omega), if_pos (by omega)]
    simp only [if_true]
    rw [ih k (a + 3) (i + 1) (by omega) (by omega) (by omega) (by omega) ?_]
    · congr 1; omega
    · intro j h1 h2
      rw [h j (by omega) h2]; rw [show a + 3 + 3 * ((j - (i + 1) : Nat) : Int) = a + 3 * ((j - i : Nat) : Int) by omega]
theorem markP_t (h : Int) (x : List S90) (hx : x.length ≤ 1048576) : ∃ y, (∀ k, x.length < k → laws_markProgram.f k h x 1 = some (1 + 3 * (x.length : Int), y)) ∧ (∀ k, x.length < k → laws_heldProgram.f k h y 1 = some (1 + 3 * (x.length : Int))) := by
  obtain ⟨y, hy, hl, _, h2⟩ := markM_l x.length (x.length + 1) x 1 0 (by omega) hx (by omega) (by omega) (by omega)
  refine ⟨y, fun k hk => ?_, fun k hk => ?_⟩
  · have := at_rounds (fun k => laws_markMotionS.mono x 1 k) (show x.length + 1 ≤ k by omega) hy
    unfold laws_markProgram.f; rw [this]; rfl
  · have := heldM_l y (by omega) y.length k 1 0 (by omega) (by omega) (by omega) (by omega) (fun j h0 hj => h2 j h0 (by omega))
    unfold laws_heldProgram.f laws_heldMotionS.f
    rw [show (0 : Int) = ((0 : Nat) : Int) from rfl, this]
    simp only [Option.bind_some]; rw [if_neg (by omega), hl]

/-! ### what is planned -/
section
variable (l : List Int) (law steps : Int) (hn : 0 < l.length) (h24 : l.length ≤ 24)
include hn h24

/-- The lifts behind each one, as the list goes round. -/
def nx (l : List Int) (i : Nat) : Int := l.getD ((i + 1) % l.length) 0
theorem tmod_n (i : Nat) (hi : i < l.length) : Int.tmod (wrap64 ((i : Int) + 1)) (l.length : Int) = (((i + 1) % l.length : Nat) : Int) := by
  rw [b_wrap _ (by omega) (by omega), show ((i : Int) + 1) = ((i + 1 : Nat) : Int) by omega]; rfl
theorem make_t (hb : ∀ j, j < l.length → 0 ≤ l.getD j 0 ∧ l.getD j 0 ≤ 10000) (h : Int) (d : Nat) : ∀ (i : Nat) (z : List Int) (ms : List S90), l.length - i = d → i ≤ l.length → z.length = i → ms.length = i →
    ∃ (z' : List Int) (ms' : List S90), z'.length = l.length ∧ ms'.length = l.length ∧ (∀ k, spec_PlanSteps.l1 (d + 1 + k) l law steps (l.length : Int) z (i : Int) h ms = spec_PlanSteps.l2 k (l.length : Int) z' (wrap64 (steps - (l.length : Int))) h ms') ∧
      (∀ k, impl_PlanSteps.l0 (d + 1 + k) l law steps (l.length : Int) z l (l.length : Int) (i : Int) h ms = impl_PlanSteps.l1 k z' (wrap64 (steps - (l.length : Int))) 0 h ms') := by
  induction d with
  | zero =>
    intro i z ms hd hi hz hm
    refine ⟨z, ms, by omega, by omega, fun k => ?_, fun k => ?_⟩
    · rw [show 0 + 1 + k = k + 1 by omega]; simp only [spec_PlanSteps.l1]; rw [if_neg (by omega)]
    · rw [show 0 + 1 + k = k + 1 by omega]; simp only [impl_PlanSteps.l0]; rw [if_neg (by omega)]
  | succ d ih =>
    intro i z ms hd hi hz hm
    have hil : i < l.length := by omega
    have hmod : (i + 1) % l.length < l.length := Nat.mod_lt _ hn
    have b1 := hb i hil
    have b2 := hb ((i + 1) % l.length) hmod
    have w : wrap64 ((i : Int) + 1) = ((i + 1 : Nat) : Int) := by rw [b_wrap _ (by omega) (by omega)]; omega
    have t := tmod_n l hn h24 i hil
    rw [w] at t
    have sz : ∃ q, spec_l01Size.f (wrap64 (l.getD ((i + 1) % l.length) 0 - l.getD i 0)) = some q ∧ impl_abs.f (wrap64 (l.getD ((i + 1) % l.length) 0 - l.getD i 0)) = some q := by
      rw [b_wrap (l.getD ((i + 1) % l.length) 0 - l.getD i 0) (by omega) (by omega)]
      unfold spec_l01Size.f impl_abs.f
      rw [b_wrap (-(l.getD ((i + 1) % l.length) 0 - l.getD i 0)) (by omega) (by omega)]
      by_cases c : l.getD ((i + 1) % l.length) 0 - l.getD i 0 < 0
      · rw [if_pos c]; exact ⟨_, rfl, by congr 1; unfold mx; split <;> omega⟩
      · rw [if_neg c]; exact ⟨_, rfl, by congr 1; unfold mx; split <;> omega⟩
    obtain ⟨q, q1, q2⟩ := sz
    obtain ⟨z', ms', l1, l2, h1, h2⟩ := ih (i + 1) (z ++ [q]) (ms ++ [(⟨IntKind.i8.wrap law, 1, IntKind.i16.wrap (l.getD ((i + 1) % l.length) 0)⟩ : S90)]) (by omega) (by omega) (by simp [hz]) (by simp [hm])
    refine ⟨z', ms', l1, l2, fun k => ?_, fun k => ?_⟩
    · rw [← h1 k, show d + 1 + 1 + k = (d + 1 + k) + 1 by omega]
      simp only [spec_PlanSteps.l1, w, t, b_rdN, q1, Option.bind_some]
      rw [if_pos (by omega), if_neg (by omega), if_pos (by omega), if_pos (by omega), if_pos (by omega), if_pos (by omega), if_pos (by omega), if_pos (by omega)]
    · rw [← h2 k, show d + 1 + 1 + k = (d + 1 + k) + 1 by omega]
      simp only [impl_PlanSteps.l0, w, t, b_rdN, q2, Option.bind_some]
      rw [if_pos (by omega), if_pos (by omega), if_pos (by omega), if_neg (by omega), if_pos (by omega), if_pos (by omega), if_pos (by omega), if_pos (by omega)]
end

/-- Which motion gets a step more. -/
def pk (z : List Int) (ms : List S90) : Nat → Nat → Nat → Nat
  | 0, _, b => b
  | d + 1, i, b => pk z ms d (i + 1) (if wrap64 (z.getD i 0 * wrap64 (ms.getD b z90).f1) > wrap64 (z.getD b 0 * wrap64 (ms.getD i z90).f1) then i else b)
theorem pk_lt (z : List Int) (ms : List S90) (n d : Nat) : ∀ (i b : Nat), n - i = d → b < n → pk z ms d i b < n := by
  induction d with
  | zero => exact fun i b _ h => h
  | succ d ih =>
    intro i b hd hb
    refine ih (i + 1) _ (by omega) ?_
    split
    · omega
    · exact hb
/-- A motion with a step more. -/
def more (ms : List S90) (b : Nat) : List S90 := ms.set b ⟨(ms.getD b z90).f0, IntKind.i16.wrap ((ms.getD b z90).f1 + 1), (ms.getD b z90).f2⟩
section
variable (n : Nat) (hn : 0 < n) (h24 : n ≤ 24) (z : List Int) (hz : z.length = n)
include hn h24 hz
theorem pick_s (ms : List S90) (hm : ms.length = n) (left h : Int) (d : Nat) : ∀ (i b : Nat), n - i = d → i ≤ n → b < n → ∀ k, spec_PlanSteps.l3 (d + 1 + k) (n : Int) z left (b : Int) (i : Int) h ms = spec_PlanSteps.l2 k (n : Int) z (wrap64 (left - 1)) h (more ms (pk z ms d i b)) := by
  induction d with
  | zero =>
    intro i b hd hi hb k
    rw [show 0 + 1 + k = k + 1 by omega]
    simp only [spec_PlanSteps.l3, rdM]
    rw [if_neg (by omega), if_pos (by omega), if_pos (by omega), Int.toNat_natCast]; rfl
  | succ d ih =>
    intro i b hd hi hb k
    have w : wrap64 ((i : Int) + 1) = ((i + 1 : Nat) : Int) := by rw [b_wrap _ (by omega) (by omega)]; omega
    rw [show d + 1 + 1 + k = (d + 1 + k) + 1 by omega]
    simp only [spec_PlanSteps.l3, rdM, b_rdN, w]
    rw [if_pos (by omega), if_pos (by omega), if_pos (by omega), if_pos (by omega), if_pos (by omega), if_pos (by omega), if_pos (by omega)]
    by_cases c : wrap64 (z.getD i 0 * wrap64 (ms.getD b z90).f1) > wrap64 (z.getD b 0 * wrap64 (ms.getD i z90).f1)
    · rw [if_pos c, ih (i + 1) i (by omega) (by omega) (by omega) k, pk, if_pos c]
    · rw [if_neg c, ih (i + 1) b (by omega) (by omega) (by omega) k, pk, if_neg c]
theorem pick_i (ms : List S90) (hm : ms.length = n) (x j h : Int) (d : Nat) : ∀ (i b : Nat), n - i = d → i ≤ n → b < n → ∀ k, impl_PlanSteps.l2 (d + 1 + k) z (b : Int) x j z (n : Int) (i : Int) h ms = impl_PlanSteps.l1 k z x (wrap64 (j + 1)) h (more ms (pk z ms d i b)) := by
  induction d with
  | zero =>
    intro i b hd hi hb k
    rw [show 0 + 1 + k = k + 1 by omega]
    simp only [impl_PlanSteps.l2, rdM]
    rw [if_neg (by omega), if_pos (by omega), if_pos (by omega), Int.toNat_natCast]; rfl
  | succ d ih =>
    intro i b hd hi hb k
    have w : wrap64 ((i : Int) + 1) = ((i + 1 : Nat) : Int) := by rw [b_wrap _ (by omega) (by omega)]; omega
    rw [show d + 1 + 1 + k = (d + 1 + k) + 1 by omega]
    simp only [impl_PlanSteps.l2, rdM, b_rdN, w]
    rw [if_pos (by omega), if_pos (by omega), if_pos (by omega), if_pos (by omega), if_pos (by omega), if_pos (by omega), if_pos (by omega)]
    by_cases c : wrap64 (z.getD i 0 * wrap64 (ms.getD b z90).f1) > wrap64 (z.getD b 0 * wrap64 (ms.getD i z90).f1)
    · rw [if_pos c, ih (i + 1) i (by omega) (by omega) (by omega) k, pk, if_pos c]
    · rw [if_neg c, ih (i + 1) b (by omega) (by omega) (by omega) k, pk, if_neg c]
theorem rounds_t (h : Int) (tot : Int) (ht : 0 ≤ tot ∧ tot ≤ 1000) (r : Nat) : ∀ (ms : List S90) (j : Int), ms.length = n → 0 ≤ j → tot - j = (r : Int) →
    ∃ ms' : List S90, ms'.length = n ∧ ∀ k, (n + 2) * r + 1 ≤ k → spec_PlanSteps.l2 k (n : Int) z (r : Int) h ms = some (h, ms', 0) ∧ impl_PlanSteps.l1 k z tot j h ms = some (h, ms', 0) := by
  induction r with
  | zero =>
    intro ms j hm hj hr
    refine ⟨ms, hm, fun k hk => ?_⟩
    obtain ⟨k, rfl⟩ : ∃ m, k = m + 1 := ⟨k - 1, by omega⟩
    simp only [spec_PlanSteps.l2, impl_PlanSteps.l1]
    rw [if_neg (by omega), if_neg (by omega)]; exact ⟨rfl, rfl⟩
  | succ r ih =>
    intro ms j hm hj hr
    have e0 : pk z ms n 0 0 = pk z ms (n - 1) 1 0 := by
      obtain ⟨m, rfl⟩ : ∃ m, n = m + 1 := ⟨n - 1, by omega⟩
      rw [pk]
      simp only [gt_iff_lt, Int.lt_irrefl, if_false, Nat.zero_add, Nat.add_sub_cancel]
    obtain ⟨ms', hl, h2⟩ := ih (more ms (pk z ms (n - 1) 1 0)) (j + 1) (by unfold more; rw [List.length_set]; exact hm) (by omega) (by omega)
    refine ⟨ms', hl, fun k hk => ?_⟩
    rw [Nat.mul_succ] at hk
    have w1 : wrap64 (((r + 1 : Nat) : Int) - 1) = (r : Int) := by rw [b_wrap _ (by omega) (by omega)]; omega
    have w2 : wrap64 (j + 1) = j + 1 := b_wrap _ (by omega) (by omega)
    have p1 : ((r + 1 : Nat) : Int) > 0 := by omega
    have p2 : j < tot := by omega
    constructor
    · obtain ⟨k', hk'⟩ : ∃ k', k = ((n - 1) + 1 + k') + 1 := ⟨k - (n + 1), by omega⟩
      have := pick_s n hn h24 z hz ms hm ((r + 1 : Nat) : Int) h (n - 1) 1 0 (by omega) (by omega) hn k'
      rw [hk']
      simp only [spec_PlanSteps.l2, if_pos p1]
      rw [show spec_PlanSteps.l3 (n - 1 + 1 + k') (n : Int) z ((r + 1 : Nat) : Int) 0 1 h ms = _ from this, w1]
      exact (h2 k' (by omega)).1
    · obtain ⟨k', hk'⟩ : ∃ k', k = (n + 1 + k') + 1 := ⟨k - (n + 2), by omega⟩
      have := pick_i n hn h24 z hz ms hm tot j h n 0 0 (by omega) (by omega) hn k'
      rw [hk']
      simp only [impl_PlanSteps.l1, if_pos p2, hz]
      rw [show impl_PlanSteps.l2 (n + 1 + k') z 0 tot j z (n : Int) 0 h ms = _ from this, w2, e0]
      exact (h2 k' (by omega)).2
end

theorem lifts_l (l : List Int) (hl : l.length ≤ 24) (law steps : Int) (d : Nat) : ∀ (i : Nat) (b : Bool), l.length - i = d → ∃ (r : Bool) (v : Int), (∀ k, d < k → ∃ k', k ≤ k' + d + 1 ∧ spec_PlanSteps.l0 k l law steps (l.length : Int) b (i : Int) = spec_PlanSteps.j2 k' l law steps (l.length : Int) (b && r)) ∧ (∀ k, d < k → slices_IndexFunc_int64_int64_c67.l0 k l (l.length : Int) (i : Int) = some v) ∧
    (r = !(decide (v ≥ 0))) ∧ (r = true → ∀ j, i ≤ j → j < l.length → 0 ≤ l.getD j 0 ∧ l.getD j 0 ≤ 10000) := by
  induction d with
  | zero =>
    intro i b hd
    refine ⟨true, -1, fun k hk => ?_, fun k hk => ?_, by simp, fun _ j h1 h2 => by omega⟩
    · obtain ⟨k, rfl⟩ : ∃ m, k = m + 1 := ⟨k - 1, by omega⟩
      refine ⟨k, by omega, ?_⟩
      simp only [spec_PlanSteps.l0]; rw [if_neg (by omega), Bool.and_true]
    · obtain ⟨k, rfl⟩ : ∃ m, k = m + 1 := ⟨k - 1, by omega⟩
      simp only [slices_IndexFunc_int64_int64_c67.l0]; rw [if_neg (by omega)]
  | succ d ih =>
    intro i b hd
    have p1 : (i : Int) < (l.length : Int) := by omega
    have p2 : 0 ≤ (i : Int) := by omega
    have w : wrap64 ((i : Int) + 1) = ((i + 1 : Nat) : Int) := by rw [b_wrap _ (by omega) (by omega)]; omega
    by_cases c : 0 ≤ l.getD i 0 ∧ l.getD i 0 ≤ 10000
    · obtain ⟨r, v, h1, h2, h3, h4⟩ := ih (i + 1) b (by omega)
      refine ⟨r, v, fun k hk => ?_, fun k hk => ?_, h3, fun hr j j1 j2 => ?_⟩
      · obtain ⟨k, rfl⟩ : ∃ m, k = m + 1 := ⟨k - 1, by omega⟩
        obtain ⟨k', hk', e⟩ := h1 k (by omega)
        cases b with
        | true =>
          refine ⟨k', by omega, ?_⟩
          simp only [spec_PlanSteps.l0, if_pos p1, if_pos p2, if_true, spec_l01Lift.f, b_rdN, spec_l00In_t, decide_eq_true c, Option.bind_some, w]; exact e
        | false =>
          refine ⟨k, by omega, ?_⟩
          simp only [spec_PlanSteps.l0, if_pos p1, Bool.false_eq_true, if_false, Bool.false_and]
      · obtain ⟨k, rfl⟩ : ∃ m, k = m + 1 := ⟨k - 1, by omega⟩
        simp only [slices_IndexFunc_int64_int64_c67.l0, if_pos p1, if_pos p2, impl_PlanSteps_1.f, impl_isLift.f, b_rdN, impl_inRange_t, decide_eq_true c, Option.bind_some, Bool.not_true, Bool.false_eq_true, if_false, w]; exact h2 k (by omega)
      · by_cases e : j = i
        · subst e; exact c
        · exact h4 hr j (by omega) j2
    · refine ⟨false, i, fun k hk => ?_, fun k hk => ?_, by simp, fun h => by cases h⟩
      · obtain ⟨k, rfl⟩ : ∃ m, k = m + 1 := ⟨k - 1, by omega⟩
        cases b with
        | true =>
          obtain ⟨k, rfl⟩ : ∃ m, k = m + 1 := ⟨k - 1, by omega⟩
          refine ⟨k, by omega, ?_⟩
          simp only [spec_PlanSteps.l0, if_pos p1, if_pos p2, if_true, spec_l01Lift.f, b_rdN, spec_l00In_t, decide_eq_false c, Option.bind_some, w]
          by_cases e : ((i + 1 : Nat) : Int) < (l.length : Int)
          · rw [if_pos e]; simp
          · rw [if_neg e]; simp
        | false =>
          refine ⟨k, by omega, ?_⟩
          simp only [spec_PlanSteps.l0, if_pos p1, Bool.false_eq_true, if_false, Bool.false_and]
      · obtain ⟨k, rfl⟩ : ∃ m, k = m + 1 := ⟨k - 1, by omega⟩
        simp only [slices_IndexFunc_int64_int64_c67.l0, if_pos p1, if_pos p2, impl_PlanSteps_1.f, impl_isLift.f, b_rdN, impl_inRange_t, decide_eq_false c, Option.bind_some, Bool.not_false, if_true]

theorem bad_s (l : List Int) (law steps n : Int) (k : Nat) (hk : 3 ≤ k) : spec_PlanSteps.j0 k l law steps n false = some (0, [], 2) := by
  obtain ⟨k, rfl⟩ : ∃ m, k = m + 3 := ⟨k - 3, by omega⟩
  simp only [spec_PlanSteps.j0, spec_PlanSteps.l0, spec_PlanSteps.j2, Bool.false_eq_true, if_false]
  split <;> rfl
theorem bad_i (l : List Int) (law steps n : Int) (k : Nat) (hk : 1 ≤ k) : impl_PlanSteps.j0 k l law steps n true = some (0, [], 2) := by
  obtain ⟨k, rfl⟩ : ∃ m, k = m + 1 := ⟨k - 1, by omega⟩
  simp only [impl_PlanSteps.j0, if_true]

theorem good_t (l : List Int) (law steps : Int) (hn : 0 < l.length) (h24 : l.length ≤ 24) (hs : 8 ≤ steps ∧ steps ≤ 360) (hp : steps ≥ (l.length : Int)) (hb : ∀ j, j < l.length → 0 ≤ l.getD j 0 ∧ l.getD j 0 ≤ 10000) :
    ∃ (h : Int) (ms : List S90), ms.length ≤ 24 ∧ ∀ k, 20000 ≤ k → spec_PlanSteps.j2 k l law steps (l.length : Int) true = some (h, ms, 0) ∧ impl_PlanSteps.j0 k l law steps (l.length : Int) false = some (h, ms, 0) := by
  obtain ⟨z, ms, z1, m1, e1, e2⟩ := make_t l law steps hn h24 hb (IntKind.i16.wrap (rd l 0)) l.length 0 [] [] (by omega) (by omega) rfl rfl
  obtain ⟨r, hr⟩ : ∃ r : Nat, steps - (l.length : Int) = (r : Int) := ⟨(steps - (l.length : Int)).toNat, by omega⟩
  have w : wrap64 (steps - (l.length : Int)) = (r : Int) := by rw [b_wrap _ (by omega) (by omega)]; exact hr
  obtain ⟨ms', l1, h2⟩ := rounds_t l.length hn h24 z z1 (IntKind.i16.wrap (rd l 0)) (r : Int) (by omega) r ms 0 m1 (by omega) (by omega)
  have hmul : (l.length + 2) * r ≤ 26 * 360 := Nat.mul_le_mul (by omega) (by omega)
  refine ⟨IntKind.i16.wrap (rd l 0), ms', by omega, fun k hk => ?_⟩
  obtain ⟨k', hk'⟩ : ∃ k', k = (l.length + 1 + k') + 1 := ⟨k - l.length - 2, by omega⟩
  obtain ⟨g1, g2⟩ := h2 k' (by omega)
  have p : (0 : Int) < (l.length : Int) := by omega
  rw [hk']
  constructor
  · simp only [spec_PlanSteps.j2, if_true, if_pos p]
    rw [show spec_PlanSteps.l1 (l.length + 1 + k') l law steps (l.length : Int) [] 0 (IntKind.i16.wrap (rd l 0)) [] = _ from e1 k', w]; exact g1
  · simp only [impl_PlanSteps.j0, Bool.false_eq_true, if_false, if_pos p]
    rw [show impl_PlanSteps.l0 (l.length + 1 + k') l law steps (l.length : Int) [] l (l.length : Int) 0 (IntKind.i16.wrap (rd l 0)) [] = _ from e2 k', w]; exact g2

theorem plan_t (l : List Int) (law steps : Int) : ∃ (h : Int) (ms : List S90) (c : Int), ms.length ≤ 24 ∧ ∀ k, 20100 ≤ k → spec_PlanSteps.f k l law steps = some (h, ms, c) ∧ impl_PlanSteps.f k l law steps = some (h, ms, c) := by
  by_cases q1 : 0 ≤ law ∧ law ≤ 3
  · by_cases q2 : 1 ≤ (l.length : Int) ∧ (l.length : Int) ≤ 24
    · obtain ⟨r, v, h1, h2, h3, h4⟩ := lifts_l l (by omega) law steps l.length 0 (if 8 ≤ steps ∧ steps ≤ 360 then decide (steps ≥ (l.length : Int)) else false) (by omega)
      have sp : ∀ k, 100 ≤ k → ∃ k', k ≤ k' + 50 ∧ spec_PlanSteps.f k l law steps = spec_PlanSteps.j2 k' l law steps (l.length : Int) ((if 8 ≤ steps ∧ steps ≤ 360 then decide (steps ≥ (l.length : Int)) else false) && r) := by
        intro k hk
        obtain ⟨k, rfl⟩ : ∃ m, k = m + 1 := ⟨k - 1, by omega⟩
        obtain ⟨k', hk', e⟩ := h1 k (by omega)
        refine ⟨k', by omega, ?_⟩
        rw [← e]
        unfold spec_PlanSteps.f spec_l02Law.f spec_l01Steps.f
        simp only [spec_l00In_t, decide_eq_true q1, decide_eq_true q2, Option.bind_some, if_true]
        by_cases q3 : 8 ≤ steps ∧ steps ≤ 360
        · simp only [decide_eq_true q3, if_true, if_pos q3, spec_PlanSteps.j0]; rfl
        · simp only [decide_eq_false q3, Bool.false_eq_true, if_false, if_neg q3, spec_PlanSteps.j0]; rfl
      have im : ∀ k, 100 ≤ k → impl_PlanSteps.f k l law steps = impl_PlanSteps.j0 k l law steps (l.length : Int) (if r = true then (if 8 ≤ steps ∧ steps ≤ 360 then decide (steps < (l.length : Int)) else true) else true) := by
        intro k hk
        unfold impl_PlanSteps.f impl_isLaw.f impl_isSteps.f slices_ContainsFunc_int64_int64_c67.f slices_IndexFunc_int64_int64_c67.f
        simp only [impl_inRange_t, decide_eq_true q1, decide_eq_true q2, Option.bind_some, if_true]
        rw [show slices_IndexFunc_int64_int64_c67.l0 k l (l.length : Int) 0 = some v from h2 k (by omega)]
        simp only [Option.bind_some]
        have hv : decide (v ≥ 0) = !r := by rw [h3, Bool.not_not]
        rw [hv]
        cases r with
        | true =>
          simp only [Bool.not_true, Bool.false_eq_true, if_false, if_true]
          by_cases q3 : 8 ≤ steps ∧ steps ≤ 360
          · simp only [decide_eq_true q3, if_true, if_pos q3]
          · simp only [decide_eq_false q3, Bool.false_eq_true, if_false, if_neg q3]
        | false => simp
      by_cases q3 : 8 ≤ steps ∧ steps ≤ 360
      · by_cases q4 : steps ≥ (l.length : Int)
        · cases r with
          | true =>
            obtain ⟨h, ms, hm, g⟩ := good_t l law steps (by omega) (by omega) q3 q4 (fun j hj => h4 rfl j (by omega) hj)
            refine ⟨h, ms, 0, hm, fun k hk => ?_⟩
            obtain ⟨k', hk', e⟩ := sp k (by omega)
            rw [e, im k (by omega), if_pos q3, decide_eq_true q4, if_pos rfl, if_pos q3, decide_eq_false (show ¬ steps < (l.length : Int) by omega)]
            exact ⟨(g k' (by omega)).1, (g k (by omega)).2⟩
          | false =>
            refine ⟨0, [], 2, by simp, fun k hk => ?_⟩
            obtain ⟨k', hk', e⟩ := sp k (by omega)
            obtain ⟨k', rfl⟩ : ∃ m, k' = m + 1 := ⟨k' - 1, by omega⟩
            rw [e, im k (by omega), Bool.and_false, if_neg (by simp)]
            exact ⟨by simp only [spec_PlanSteps.j2, Bool.false_eq_true, if_false], bad_i l law steps _ k (by omega)⟩
        · refine ⟨0, [], 2, by simp, fun k hk => ?_⟩
          obtain ⟨k', hk', e⟩ := sp k (by omega)
          obtain ⟨k', rfl⟩ : ∃ m, k' = m + 1 := ⟨k' - 1, by omega⟩
          have z : (if r = true then (if 8 ≤ steps ∧ steps ≤ 360 then decide (steps < (l.length : Int)) else true) else true) = true := by
            rw [if_pos q3, decide_eq_true (show steps < (l.length : Int) by omega)]; split <;> rfl
          rw [e, im k (by omega), z, if_pos q3, decide_eq_false q4, Bool.false_and]
          exact ⟨by simp only [spec_PlanSteps.j2, Bool.false_eq_true, if_false], bad_i l law steps _ k (by omega)⟩
      · refine ⟨0, [], 2, by simp, fun k hk => ?_⟩
        obtain ⟨k', hk', e⟩ := sp k (by omega)
        obtain ⟨k', rfl⟩ : ∃ m, k' = m + 1 := ⟨k' - 1, by omega⟩
        have z : (if r = true then (if 8 ≤ steps ∧ steps ≤ 360 then decide (steps < (l.length : Int)) else true) else true) = true := by
          rw [if_neg q3]; split <;> rfl
        rw [e, im k (by omega), z, if_neg q3, Bool.false_and]
        exact ⟨by simp only [spec_PlanSteps.j2, Bool.false_eq_true, if_false], bad_i l law steps _ k (by omega)⟩
    · refine ⟨0, [], 2, by simp, fun k hk => ⟨?_, ?_⟩⟩
      · unfold spec_PlanSteps.f spec_l02Law.f
        simp only [spec_l00In_t, decide_eq_true q1, decide_eq_false q2, Option.bind_some, if_true, Bool.false_eq_true, if_false]
        exact bad_s l law steps _ k (by omega)
      · unfold impl_PlanSteps.f impl_isLaw.f
        simp only [impl_inRange_t, decide_eq_true q1, decide_eq_false q2, Option.bind_some, if_true, Bool.false_eq_true, if_false]
        exact bad_i l law steps _ k (by omega)
  · refine ⟨0, [], 2, by simp, fun k hk => ⟨?_, ?_⟩⟩
    · unfold spec_PlanSteps.f spec_l02Law.f
      simp only [spec_l00In_t, decide_eq_false q1, Option.bind_some, Bool.false_eq_true, if_false]
      exact bad_s l law steps _ k (by omega)
    · unfold impl_PlanSteps.f impl_isLaw.f
      simp only [impl_inRange_t, decide_eq_false q1, Option.bind_some, Bool.false_eq_true, if_false]
      exact bad_i l law steps _ k (by omega)

theorem FnExactPlanSteps : laws_FnExactPlanSteps.Pure := by
  intro l a b _ _ _ _ _
  by_cases hl : (l.length : Int) > 1048576
  · exact ⟨0, by unfold laws_FnExactPlanSteps.f; rw [if_pos hl]⟩
  · obtain ⟨h, ms, c, hm, hp⟩ := plan_t l a b
    obtain ⟨y, y1, y2⟩ := markP_t h ms (by omega)
    obtain ⟨u, hu⟩ := laws_markInt64S_o l (by omega)
    obtain ⟨m, hm0⟩ : ∃ m, m = l.length + 20200 := ⟨_, rfl⟩
    refine ⟨m + 3, ?_⟩
    have t3 := laws_toInt64S_t l (by omega) (m + 3) (by omega)
    have t2 := laws_toInt64S_t l (by omega) (m + 2) (by omega)
    have t1 := laws_toInt64S_t l (by omega) (m + 1) (by omega)
    obtain ⟨s3, i3⟩ := hp (m + 3) (by omega)
    obtain ⟨_, i1⟩ := hp (m + 1) (by omega)
    have e3 := eqP_t h ms (by omega) (m + 3) (by omega)
    have e2 := eqP_t h ms (by omega) (m + 2) (by omega)
    have e1 := eqP_t h ms (by omega) (m + 1) (by omega)
    have q2 := laws_eqInt64S_t l (by omega) (m + 2) (by omega)
    have u2 := hu (m + 2) (by omega)
    have k1 := y1 (m + 1) (by omega)
    have d1 := y2 (m + 1) (by omega)
    have d0 := y2 m (by omega)
    have n1 : ¬ (1 + (l.length : Int) < 0) := by omega
    have n2 : ¬ (1 + 3 * (ms.length : Int) < 0) := by omega
    clear hp y1 y2 hu
    unfold laws_FnExactPlanSteps.f
    rw [if_neg hl]
    simp only [Option.bind_some, t3, s3, i3, e3, if_true, bne_self_eq_false]
    simp only [laws_FnExactPlanSteps.j0, Bool.false_eq_true, if_false, t2, Option.bind_some, q2, if_true, u2, if_neg n1, e2, bne_self_eq_false]
    simp only [laws_FnExactPlanSteps.j1, Bool.false_eq_true, if_false, k1, Option.bind_some, d1, if_neg n2, if_true, t1, i1, e1, bne_self_eq_false]
    simp only [laws_FnExactPlanSteps.j2, Bool.false_eq_true, if_false, d0, Option.bind_some, if_neg n2, if_true]

end Go.Proofs.Ytpkhneodcndlpaa.Pure
