/- The pure statement of the law FnExactCanReplace is proved: for every input that the law speaks of, the law's function answers true. No conditions beyond the statement's own. -/
import Derived.Test.YtobngbphmhggkabFFnExactCanReplacex
namespace Go.Proofs.Ytobngbphmhggkab.Pure
open Go.RowKit Go.Proofs.Ytobngbphmhggkab.FFnExactCanReplace Go.Proofs.YtobngbphmhggkabW.PrintWords Go.Proofs.YtobngbphmhggkabW.PrintLast
set_option linter.unusedVariables false

theorem b_wrap (x : Int) (h : -9223372036854775808 ≤ x) (h' : x ≤ 9223372036854775807) : wrap64 x = x := by
  unfold wrap64; omega

theorem b_rd (l : List Int) (i : Nat) (h : i < l.length) : rd l (i : Int) = l[i] := by
  unfold rd; rw [List.getD_eq_getElem?_getD, Int.toNat_natCast, List.getElem?_eq_getElem h]; rfl

theorem b_take (l : List Int) (i : Nat) (h : i < l.length) : l.take (i + 1) = l.take i ++ [l[i]] := by
  rw [List.take_succ_eq_append_getElem h]

theorem b_set (x : List Int) (i : Nat) (v : Int) (h : i < x.length) : (x.set i v).take (i + 1) = x.take i ++ [v] := by
  have h' : i < (x.set i v).length := by rw [List.length_set]; exact h
  rw [List.take_succ_eq_append_getElem h', List.getElem_set_self, List.take_set_of_le (Nat.le_refl i)]
set_option linter.unusedSectionVars false
theorem laws_toCutter_l (l : List Int) (hl : l.length ≤ 140737488355328) (d : Nat) : ∀ (k : Nat) (x : List Int) (i : Nat), l.length - i = d → d < k → x.length = l.length → x.take i = l.take i → laws_toCutter.l0 k l x (i : Int) = some l := by
  induction d with
  | zero =>
    intro k x i hd hk hx ht
    obtain ⟨k, rfl⟩ : ∃ m, k = m + 1 := ⟨k - 1, by omega⟩
    simp only [laws_toCutter.l0]; rw [if_neg (by omega)]
    rw [List.take_of_length_le (by omega), List.take_of_length_le (by omega)] at ht
    rw [ht]
  | succ d ih =>
    intro k x i hd hk hx ht
    obtain ⟨k, rfl⟩ : ∃ m, k = m + 1 := ⟨k - 1, by omega⟩
    simp only [laws_toCutter.l0]; rw [if_pos (by omega), if_pos (by omega), if_pos (by omega)]
    rw [b_wrap _ (by omega) (by omega), b_rd l i (by omega), Int.toNat_natCast]
    rw [show ((i : Int) + 1) = ((i + 1 : Nat) : Int) by omega]
    refine ih k _ (i + 1) (by omega) (by omega) (by rw [List.length_set]; exact hx) ?_
    rw [b_set x i _ (by omega), b_take l i (by omega), ht]

theorem laws_toCutter_t (l : List Int) (hl : l.length ≤ 1048576) (k : Nat) (hk : l.length < k) : laws_toCutter.f k l = some l := by
  unfold laws_toCutter.f
  rw [if_pos (by omega), if_pos (by omega), Int.toNat_natCast]
  exact laws_toCutter_l l (by omega) l.length k _ 0 (by omega) hk (by simp) rfl
theorem laws_eqCutter_l (l : List Int) (hl : l.length ≤ 1048576) (d : Nat) : ∀ (k : Nat) (i : Nat), l.length - i = d → d < k → laws_eqCutter.l0 k l l (i : Int) = some true := by
  induction d with
  | zero =>
    intro k i hd hk
    obtain ⟨k, rfl⟩ : ∃ m, k = m + 1 := ⟨k - 1, by omega⟩
    simp only [laws_eqCutter.l0]; rw [if_neg (by omega)]
  | succ d ih =>
    intro k i hd hk
    obtain ⟨k, rfl⟩ : ∃ m, k = m + 1 := ⟨k - 1, by omega⟩
    simp only [laws_eqCutter.l0]; rw [if_pos (by omega), if_pos (by omega), if_pos (by omega), if_pos trivial]
    rw [b_wrap _ (by omega) (by omega), show ((i : Int) + 1) = ((i + 1 : Nat) : Int) by omega]
    exact ih k (i + 1) (by omega) (by omega)

theorem laws_eqCutter_t (l : List Int) (hl : l.length ≤ 1048576) (k : Nat) (hk : l.length < k) : laws_eqCutter.f k l l = some true := by
  unfold laws_eqCutter.f
  rw [if_pos rfl]
  exact laws_eqCutter_l l hl l.length k 0 (by omega) hk
theorem impl_inRange_t (a b c : Int) : impl_inRange.f a b c = some (decide (b ≤ a ∧ a ≤ c)) := by
  unfold impl_inRange.f
  by_cases h : b ≤ a
  · rw [if_pos h]; simp [h]
  · rw [if_neg h]; simp [h]
theorem spec_l00In_t (a b c : Int) : spec_l00In.f a b c = some (decide (b ≤ a ∧ a ≤ c)) := by
  unfold spec_l00In.f
  by_cases h : b ≤ a
  · rw [if_pos h]; simp [h]
  · rw [if_neg h]; simp [h]
theorem b_rdN (x : List Int) (j : Nat) : rd x (j : Int) = x.getD j 0 := by unfold rd; rw [Int.toNat_natCast]

def SP (x : List Int) (j : Nat) : Prop := (0 ≤ x.getD j 0 ∧ x.getD j 0 ≤ 10000) ∧ x.getD (x.length - 1 - j) 0 = x.getD j 0 ∧ (0 < j → ¬ x.getD (j - 1) 0 < x.getD j 0)
def IP (x : List Int) (j : Nat) : Prop := (0 ≤ x.getD j 0 ∧ x.getD j 0 ≤ 10000) ∧ x.getD j 0 = x.getD (x.length - 1 - j) 0 ∧ (x.length / 2 < j → ¬ x.getD j 0 < x.getD (j - 1) 0)

theorem spec_loop (x : List Int) (hx : x.length ≤ 31) (h0 : 0 < x.length) (hb : ∀ j : Nat, -32768 ≤ x.getD j 0 ∧ x.getD j 0 ≤ 32767) (d : Nat) : ∀ (k i : Nat), x.length / 2 + 1 - i = d → d < k →
    ∃ r, spec_l06Ok.l0 k x (x.length : Int) (i : Int) = some r ∧ (r = true ↔ ∀ j, i ≤ j → j ≤ x.length / 2 → SP x j) := by
  induction d with
  | zero =>
    intro k i hd hk
    obtain ⟨k, rfl⟩ : ∃ m, k = m + 1 := ⟨k - 1, by omega⟩
    refine ⟨true, ?_, by simp; intro j h1 h2; omega⟩
    have ht : Int.tdiv (x.length : Int) 2 = ((x.length / 2 : Nat) : Int) := rfl
    simp only [spec_l06Ok.l0]; rw [ht, b_wrap _ (by omega) (by omega), if_neg (by omega)]
  | succ d ih =>
    intro k i hd hk
    obtain ⟨k, rfl⟩ : ∃ m, k = m + 1 := ⟨k - 1, by omega⟩
    have ht : Int.tdiv (x.length : Int) 2 = ((x.length / 2 : Nat) : Int) := rfl
    have hbi := hb i
    obtain ⟨r, hr, hrt⟩ := ih k (i + 1) (by omega) (by omega)
    have hnext : spec_l06Ok.l0 k x (x.length : Int) (wrap64 ((i : Int) + 1)) = some r := by
      rw [b_wrap _ (by omega) (by omega), show ((i : Int) + 1) = ((i + 1 : Nat) : Int) by omega]; exact hr
    have step : ∀ (Q : Prop), (SP x i ↔ Q) → Q → (r = true ↔ ∀ j, i ≤ j → j ≤ x.length / 2 → SP x j) := by
      intro Q e q
      rw [hrt]
      refine ⟨fun h j h1 h2 => ?_, fun h j h1 h2 => h j (by omega) h2⟩
      by_cases c : j = i
      · subst c; exact e.mpr q
      · exact h j (by omega) h2
    have stop : ¬ SP x i → ((false : Bool) = true ↔ ∀ j, i ≤ j → j ≤ x.length / 2 → SP x j) :=
      fun h => ⟨(fun e => by cases e), fun e => absurd (e i (Nat.le_refl _) (by omega)) h⟩
    simp only [spec_l06Ok.l0]; rw [ht, b_wrap ((x.length / 2 : Nat) : Int) (by omega) (by omega), if_pos (by omega), if_pos (by omega), if_pos (by omega), b_rdN, b_wrap _ (by omega) (by omega)]
    unfold spec_l01Lift.f
    simp only [spec_l00In_t, Option.bind_some]
    by_cases c1 : 0 ≤ x.getD i 0 ∧ x.getD i 0 ≤ 10000
    · rw [if_pos (by simpa using c1)]
      rw [b_wrap ((x.length : Int) - 1) (by omega) (by omega), b_wrap _ (by omega) (by omega), if_pos (by omega), if_pos (by omega), show ((x.length : Int) - 1 - (i : Int)) = ((x.length - 1 - i : Nat) : Int) by omega, b_rdN]
      by_cases c2 : x.getD (x.length - 1 - i) 0 = x.getD i 0
      · rw [if_pos c2]
        by_cases c3 : (i : Int) > 0
        · rw [if_pos c3, b_wrap _ (by omega) (by omega), if_pos (by omega), if_pos (by omega), show ((i : Int) - 1) = ((i - 1 : Nat) : Int) by omega, b_rdN]
          by_cases c4 : x.getD (i - 1) 0 < x.getD i 0
          · rw [if_pos c4]; exact ⟨false, rfl, stop (fun h => h.2.2 (by omega) c4)⟩
          · rw [if_neg c4]; exact ⟨r, hnext, step True ⟨fun _ => trivial, fun _ => ⟨c1, c2, fun _ => c4⟩⟩ trivial⟩
        · rw [if_neg c3]; exact ⟨r, hnext, step True ⟨fun _ => trivial, fun _ => ⟨c1, c2, fun h => by omega⟩⟩ trivial⟩
      · rw [if_neg c2]; exact ⟨false, rfl, stop (fun h => c2 h.2.1)⟩
    · rw [if_neg (by simpa using c1)]; exact ⟨false, rfl, stop (fun h => c1 h.1)⟩

theorem impl_loop (x : List Int) (hx : x.length ≤ 31) (h0 : 0 < x.length) (hb : ∀ j : Nat, -32768 ≤ x.getD j 0 ∧ x.getD j 0 ≤ 32767) (d : Nat) : ∀ (k i : Nat), x.length - i = d → d < k →
    ∃ r, impl_ValidCutter.l0 k x (x.length : Int) x (x.length : Int) (i : Int) = some r ∧ (r = true ↔ ∀ j, i ≤ j → j < x.length → IP x j) := by
  induction d with
  | zero =>
    intro k i hd hk
    obtain ⟨k, rfl⟩ : ∃ m, k = m + 1 := ⟨k - 1, by omega⟩
    refine ⟨true, ?_, by simp; intro j h1 h2; omega⟩
    simp only [impl_ValidCutter.l0]; rw [if_neg (by omega)]
  | succ d ih =>
    intro k i hd hk
    obtain ⟨k, rfl⟩ : ∃ m, k = m + 1 := ⟨k - 1, by omega⟩
    have ht : Int.tdiv (x.length : Int) 2 = ((x.length / 2 : Nat) : Int) := rfl
    have hbi := hb i
    obtain ⟨r, hr, hrt⟩ := ih k (i + 1) (by omega) (by omega)
    have hnext : impl_ValidCutter.l0 k x (x.length : Int) x (x.length : Int) (wrap64 ((i : Int) + 1)) = some r := by
      rw [b_wrap _ (by omega) (by omega), show ((i : Int) + 1) = ((i + 1 : Nat) : Int) by omega]; exact hr
    have step : ∀ (Q : Prop), (IP x i ↔ Q) → Q → (r = true ↔ ∀ j, i ≤ j → j < x.length → IP x j) := by
      intro Q e q
      rw [hrt]
      refine ⟨fun h j h1 h2 => ?_, fun h j h1 h2 => h j (by omega) h2⟩
      by_cases c : j = i
      · subst c; exact e.mpr q
      · exact h j (by omega) h2
    have stop : ¬ IP x i → ((false : Bool) = true ↔ ∀ j, i ≤ j → j < x.length → IP x j) :=
      fun h => ⟨(fun e => by cases e), fun e => absurd (e i (Nat.le_refl _) (by omega)) h⟩
    simp only [impl_ValidCutter.l0]; rw [if_pos (by omega), if_pos (by omega), if_pos (by omega), b_rdN, b_wrap (x.getD i 0) (by omega) (by omega)]
    unfold impl_isLift.f
    simp only [impl_inRange_t, Option.bind_some]
    by_cases c1 : 0 ≤ x.getD i 0 ∧ x.getD i 0 ≤ 10000
    · rw [if_pos (by simpa using c1)]
      rw [b_wrap ((x.length : Int) - 1) (by omega) (by omega), b_wrap ((x.length : Int) - 1 - (i : Int)) (by omega) (by omega), if_pos (by omega), if_pos (by omega), show ((x.length : Int) - 1 - (i : Int)) = ((x.length - 1 - i : Nat) : Int) by omega, b_rdN]
      by_cases c2 : x.getD i 0 = x.getD (x.length - 1 - i) 0
      · rw [if_pos c2, ht, b_wrap ((x.length / 2 : Nat) : Int) (by omega) (by omega)]
        by_cases c3 : (i : Int) > ((x.length / 2 : Nat) : Int)
        · rw [if_pos c3, b_wrap _ (by omega) (by omega), if_pos (by omega), if_pos (by omega), show ((i : Int) - 1) = ((i - 1 : Nat) : Int) by omega, b_rdN]
          by_cases c4 : x.getD i 0 < x.getD (i - 1) 0
          · rw [if_pos c4]; exact ⟨false, rfl, stop (fun h => h.2.2 (by omega) c4)⟩
          · rw [if_neg c4]; exact ⟨r, hnext, step True ⟨fun _ => trivial, fun _ => ⟨c1, c2, fun _ => c4⟩⟩ trivial⟩
        · rw [if_neg c3]; exact ⟨r, hnext, step True ⟨fun _ => trivial, fun _ => ⟨c1, c2, fun h => by omega⟩⟩ trivial⟩
      · rw [if_neg c2]; exact ⟨false, rfl, stop (fun h => c2 h.2.1)⟩
    · rw [if_neg (by simpa using c1)]; exact ⟨false, rfl, stop (fun h => c1 h.1)⟩

theorem both (x : List Int) (hx : x.length ≤ 31) (h0 : x.length % 2 = 1) : (∀ j, 0 ≤ j → j ≤ x.length / 2 → SP x j) ↔ (∀ j, 0 ≤ j → j < x.length → IP x j) := by
  constructor
  · intro h j _ hj
    by_cases c : j ≤ x.length / 2
    · have a := h j (by omega) c
      exact ⟨a.1, a.2.1.symm, fun q => by omega⟩
    · have a := h (x.length - 1 - j) (by omega) (by omega)
      have b := h (x.length - 1 - j + 1) (by omega) (by omega)
      rw [SP] at a b
      rw [show x.length - 1 - (x.length - 1 - j) = j by omega] at a
      rw [show x.length - 1 - (x.length - 1 - j + 1) = j - 1 by omega, show x.length - 1 - j + 1 - 1 = x.length - 1 - j by omega] at b
      refine ⟨by rw [a.2.1]; exact a.1, a.2.1, fun _ => ?_⟩
      rw [a.2.1, b.2.1]
      have := b.2.2 (by omega)
      omega
  · intro h j _ hj
    have a := h j (by omega) (by omega)
    refine ⟨a.1, a.2.1.symm, fun q => ?_⟩
    have b := h (x.length - 1 - j + 1) (by omega) (by omega)
    rw [IP] at a b
    rw [show x.length - 1 - (x.length - 1 - j + 1) = j - 1 by omega, show x.length - 1 - j + 1 - 1 = x.length - 1 - j by omega] at b
    rw [a.2.1, ← b.2.1]
    have := b.2.2 (by omega)
    omega

/-- What a valid cutter is. -/
def Cut (x : List Int) : Prop := (1 ≤ x.length ∧ x.length ≤ 31) ∧ x.length % 2 = 1 ∧ x.getD (x.length / 2) 0 = 0 ∧ ∀ j, j < x.length → 0 ≤ x.getD j 0 ∧ x.getD j 0 ≤ 10000

theorem cutter_k (x : List Int) (hb : ∀ j : Nat, -32768 ≤ x.getD j 0 ∧ x.getD j 0 ≤ 32767) (k : Nat) (hk : 40 ≤ k) : ∃ r, (r = true → Cut x) ∧ spec_l06Ok.f k x = some r ∧ impl_ValidCutter.f k x = some r := by
  obtain ⟨k, rfl⟩ : ∃ m, k = m + 1 := ⟨k - 1, by omega⟩
  unfold spec_l06Ok.f impl_ValidCutter.f
  simp only [spec_l00In_t, Option.bind_some]
  by_cases c1 : (1 : Int) ≤ (x.length : Int) ∧ (x.length : Int) ≤ 31
  · rw [if_pos (by simpa using c1)]
    by_cases c2 : (x.length : Int) % 2 = 0
    · rw [if_pos c2, if_pos c2]
      simp only [spec_l06Ok.j0, impl_ValidCutter.j0, if_true]; exact ⟨false, (fun h => by cases h), rfl, rfl⟩
    · have e1 : ¬ (x.length : Int) > 31 := by omega
      have e2 : 0 ≤ (x.length : Int) / 2 := by omega
      have e3 : (x.length : Int) / 2 < (x.length : Int) := by omega
      simp only [if_neg c2, if_neg e1, b_wrap ((x.length : Int) / 2) (by omega) (by omega), if_pos e2, if_pos e3]
      simp only [spec_l06Ok.j0, impl_ValidCutter.j0]
      by_cases c3 : (rd x ((x.length : Int) / 2) != 0) = true
      · rw [if_pos c3, if_pos c3]; exact ⟨false, (fun h => by cases h), rfl, rfl⟩
      · rw [if_neg c3, if_neg c3]
        obtain ⟨r, h1, h2⟩ := spec_loop x (by omega) (by omega) hb (x.length / 2 + 1) k 0 (by omega) (by omega)
        obtain ⟨q, h3, h4⟩ := impl_loop x (by omega) (by omega) hb x.length k 0 (by omega) (by omega)
        have e : r = q := by
          rw [both x (by omega) (by omega), ← h4] at h2
          exact Bool.eq_iff_iff.mpr h2
        subst e
        refine ⟨r, fun hr => ⟨by omega, by omega, ?_, fun j hj => ((h4.mp hr) j (Nat.zero_le _) hj).1⟩, by rw [show ((0 : Int)) = ((0 : Nat) : Int) from rfl, h1], h3⟩
        rw [show ((x.length : Int) / 2) = ((x.length / 2 : Nat) : Int) by omega, b_rdN] at c3
        simpa using c3
  · rw [if_neg (by simpa using c1)]
    simp only [spec_l06Ok.j0, if_true]
    refine ⟨false, (fun h => by cases h), rfl, ?_⟩
    by_cases c2 : (x.length : Int) % 2 = 0
    · rw [if_pos c2]; simp only [impl_ValidCutter.j0, if_true]
    · rw [if_neg c2, if_pos (by omega)]; simp only [impl_ValidCutter.j0, if_true]

theorem cutter_t (x : List Int) (hb : ∀ j : Nat, -32768 ≤ x.getD j 0 ∧ x.getD j 0 ≤ 32767) : ∃ r, (r = true → Cut x) ∧ ∀ k, 40 ≤ k → spec_l06Ok.f k x = some r ∧ impl_ValidCutter.f k x = some r := by
  obtain ⟨r, h1, h2, h3⟩ := cutter_k x hb 40 (Nat.le_refl _)
  exact ⟨r, h1, fun k hk => ⟨at_rounds (spec_l06Ok.mono x) hk h2, at_rounds (impl_ValidCutter.mono x) hk h3⟩⟩

theorem b_w16 (x : Int) (h : -32768 ≤ x) (h' : x ≤ 32767) : IntKind.i16.wrap x = x := by
  simp only [IntKind.wrap, IntKind.bits, IntKind.signed]
  have e := Int.bmod_def x (2 ^ 16)
  first | omega | (simp at *; omega)

/-- How far the other stands above the one at a place. -/
def dif (a b : List Int) (s j : Nat) : Int := b.getD (s + j) 0 - a.getD j 0
/-- The greatest of the first ones, from 0 on. -/
def M (a b : List Int) (s : Nat) : Nat → Int
  | 0 => 0
  | j + 1 => if M a b s j > dif a b s j then M a b s j else dif a b s j
/-- The greatest of the first ones, from the first on. -/
def V (a b : List Int) (s : Nat) : Nat → Int
  | 0 => dif a b s 0
  | j + 1 => mx (V a b s j) (dif a b s j)
/-- Where it stands. -/
def St (a b : List Int) (s : Nat) : Int := M a b s a.length
/-- The place i is reached from the stand s. -/
def cov (a b : List Int) (s i : Nat) : Prop := s + a.length ≤ b.length ∧ s ≤ i ∧ i < s + a.length ∧ St a b s + a.getD (i - s) 0 = b.getD i 0

theorem M0 (a b : List Int) (s : Nat) : M a b s 0 = 0 := rfl
theorem MS (a b : List Int) (s j : Nat) : M a b s (j + 1) = if M a b s j > dif a b s j then M a b s j else dif a b s j := rfl
theorem V0 (a b : List Int) (s : Nat) : V a b s 0 = dif a b s 0 := rfl
theorem VS (a b : List Int) (s j : Nat) : V a b s (j + 1) = if V a b s j < dif a b s j then dif a b s j else V a b s j := rfl
attribute [local irreducible] M V dif St

theorem MV (a b : List Int) (s j : Nat) : (0 ≤ M a b s (j + 1) ∧ (M a b s (j + 1) = 0 ∧ V a b s (j + 1) ≤ 0 ∨ M a b s (j + 1) = V a b s (j + 1))) ∧ ∀ i, i ≤ j → dif a b s i ≤ V a b s (j + 1) := by
  induction j with
  | zero =>
    have e1 := MS a b s 0
    have e2 := VS a b s 0
    rw [M0] at e1
    rw [V0] at e2
    constructor
    · rw [e1, e2]; generalize dif a b s 0 = z
      split <;> split <;> omega
    · intro i hi
      have e : i = 0 := by omega
      subst e
      rw [e2]; split <;> omega
  | succ j ih =>
    obtain ⟨i1, i2⟩ := ih
    have e1 := MS a b s (j + 1)
    have e2 := VS a b s (j + 1)
    generalize M a b s (j + 1) = m at *
    generalize V a b s (j + 1) = v at *
    constructor
    · rw [e1, e2]; generalize dif a b s (j + 1) = z
      split <;> split <;> omega
    · intro i hi
      rw [e2]
      by_cases c : i = j + 1
      · subst c; split <;> omega
      · have := i2 i (by omega)
        split <;> omega

section
variable (a b : List Int) (ha : Cut a) (hb : Cut b)
include ha hb

theorem dif_bd (s j : Nat) (h : s + a.length ≤ b.length) (hj : j < a.length) : -10000 ≤ dif a b s j ∧ dif a b s j ≤ 10000 := by
  have h1 := ha.2.2.2 j hj
  have h2 := hb.2.2.2 (s + j) (by omega)
  unfold dif; omega

theorem M_bd (s : Nat) (h : s + a.length ≤ b.length) (j : Nat) (hj : j ≤ a.length) : 0 ≤ M a b s j ∧ M a b s j ≤ 10000 := by
  induction j with
  | zero => rw [M0]; omega
  | succ j ih =>
    have d := dif_bd a b ha hb s j h (by omega)
    have i := ih (by omega)
    rw [MS]; split <;> omega

theorem V_bd (s : Nat) (h : s + a.length ≤ b.length) (j : Nat) (hj : j ≤ a.length) : -10000 ≤ V a b s j ∧ V a b s j ≤ 10000 := by
  have h0 := ha.1
  induction j with
  | zero => rw [V0]; exact dif_bd a b ha hb s 0 h (by omega)
  | succ j ih =>
    have d := dif_bd a b ha hb s j h (by omega)
    have i := ih (by omega)
    rw [VS]; split <;> omega

theorem St_V (s : Nat) (h : s + a.length ≤ b.length) : V a b s a.length = St a b s := by
  have h0 := ha.1
  obtain ⟨m, hm⟩ : ∃ m, a.length = m + 1 := ⟨a.length - 1, by omega⟩
  have q := MV a b s m
  have z := q.2 (a.length / 2) (by omega)
  have y := hb.2.2.2 (s + a.length / 2) (by omega)
  have e : dif a b s (a.length / 2) = b.getD (s + a.length / 2) 0 := by unfold dif; rw [ha.2.2.1]; omega
  unfold St
  rw [hm]
  rw [e] at z
  have q1 := q.1
  generalize M a b s (m + 1) = mm at *
  generalize V a b s (m + 1) = vv at *
  omega

theorem stand_l (s : Nat) (h : s + a.length ≤ b.length) (d : Nat) : ∀ (k i : Nat), a.length - i = d → i ≤ a.length → d < k → spec_l06Stand.l0 k a b (s : Int) (M a b s i) (i : Int) = some (St a b s) := by
  have h0 := hb.1
  induction d with
  | zero =>
    intro k i hd hi hk
    obtain ⟨k, rfl⟩ : ∃ m, k = m + 1 := ⟨k - 1, by omega⟩
    have e : i = a.length := by omega
    simp only [spec_l06Stand.l0]; rw [if_neg (by omega), e]; unfold St; rfl
  | succ d ih =>
    intro k i hd hi hk
    obtain ⟨k, rfl⟩ : ∃ m, k = m + 1 := ⟨k - 1, by omega⟩
    have h1 := ha.2.2.2 i (by omega)
    have h2 := hb.2.2.2 (s + i) (by omega)
    have ih' := ih k (i + 1) (by omega) (by omega) (by omega)
    have w : Unit → wrap64 ((s : Int) + (i : Int)) = ((s + i : Nat) : Int) := fun _ => by rw [b_wrap _ (by omega) (by omega)]; omega
    have w2 : Unit → wrap64 ((i : Int) + 1) = ((i + 1 : Nat) : Int) := fun _ => by rw [b_wrap _ (by omega) (by omega)]; omega
    have e : b.getD (s + i) 0 - a.getD i 0 = dif a b s i := by unfold dif; rfl
    have mxx : ∀ x y : Int, spec_l00Max.f x y = some (if x > y then x else y) := by
      intro x y; unfold spec_l00Max.f; split <;> rfl
    rw [MS] at ih'
    simp only [spec_l06Stand.l0]
    rw [if_pos (by omega), w (), if_pos (by omega), if_pos (by omega), if_pos (by omega), b_rdN, b_rdN, b_wrap (b.getD (s + i) 0) (by omega) (by omega), b_wrap (a.getD i 0) (by omega) (by omega), b_wrap (_ - _) (by omega) (by omega), e, mxx, w2 ()]
    simp only [Option.bind_some]
    exact ih'

theorem stand_t (s : Nat) (h : s + a.length ≤ b.length) (k : Nat) (hk : 40 ≤ k) : spec_l06Stand.f k a b (s : Int) = some (St a b s) := by
  have h0 := ha.1
  have := stand_l a b ha hb s h a.length k 0 (by omega) (by omega) (by omega)
  rw [M0] at this
  exact this

theorem stands_l (s : Nat) (h : s + a.length ≤ b.length) (d : Nat) : ∀ (k i : Nat), a.length - i = d → i ≤ a.length → d < k → impl_Cutter_standsAt.l0 k b (s : Int) (V a b s i) a (a.length : Int) (i : Int) = some (St a b s) := by
  have h0 := hb.1
  induction d with
  | zero =>
    intro k i hd hi hk
    obtain ⟨k, rfl⟩ : ∃ m, k = m + 1 := ⟨k - 1, by omega⟩
    have e : i = a.length := by omega
    simp only [impl_Cutter_standsAt.l0]; rw [if_neg (by omega), e, St_V a b ha hb s h]
  | succ d ih =>
    intro k i hd hi hk
    obtain ⟨k, rfl⟩ : ∃ m, k = m + 1 := ⟨k - 1, by omega⟩
    have h1 := ha.2.2.2 i (by omega)
    have h2 := hb.2.2.2 (s + i) (by omega)
    have ih' := ih k (i + 1) (by omega) (by omega) (by omega)
    have w : Unit → wrap64 ((s : Int) + (i : Int)) = ((s + i : Nat) : Int) := fun _ => by rw [b_wrap _ (by omega) (by omega)]; omega
    have w2 : Unit → wrap64 ((i : Int) + 1) = ((i + 1 : Nat) : Int) := fun _ => by rw [b_wrap _ (by omega) (by omega)]; omega
    have e : b.getD (s + i) 0 - a.getD i 0 = dif a b s i := by unfold dif; rfl
    rw [VS] at ih'
    simp only [impl_Cutter_standsAt.l0]
    rw [if_pos (by omega), if_pos (by omega), if_pos (by omega), w (), if_pos (by omega), if_pos (by omega), b_rdN, b_rdN, b_w16 (_ - _) (by omega) (by omega), e, w2 ()]
    unfold mx
    exact ih'

theorem stands_t (s : Nat) (h : s + a.length ≤ b.length) (k : Nat) (hk : 40 ≤ k) : impl_Cutter_standsAt.f k a b (s : Int) = some (St a b s) := by
  have h0 := ha.1
  have h1 := ha.2.2.2 0 (by omega)
  have h2 := hb.2.2.2 s (by omega)
  have := stands_l a b ha hb s h a.length k 0 (by omega) (by omega) (by omega)
  rw [V0] at this
  unfold impl_Cutter_standsAt.f
  rw [if_pos (by omega), if_pos (by omega), if_pos (by omega), b_rdN, show rd a 0 = a.getD 0 0 from b_rdN a 0, b_w16 _ (by omega) (by omega)]
  rw [show b.getD s 0 - a.getD 0 0 = dif a b s 0 by unfold dif; rfl]
  exact this

theorem sl1_l (i : Nat) (hi : i < b.length) (d : Nat) : ∀ (k s : Nat) (f : Bool), b.length + 1 - (s + a.length) = d → s ≤ b.length → 100 + d < k →
    ∃ r : Bool, (r = true ↔ f = true ∨ ∃ t, s ≤ t ∧ cov a b t i) ∧ spec_CanReplace.l1 k a b (i : Int) f (s : Int) = if r = true then spec_CanReplace.l0 (k - d - 1) a b ((i + 1 : Nat) : Int) else some (false, 0) := by
  have h0 := hb.1
  have h0a := ha.1
  induction d with
  | zero =>
    intro k s f hd hs hk
    obtain ⟨k, rfl⟩ : ∃ m, k = m + 1 := ⟨k - 1, by omega⟩
    refine ⟨f, ⟨fun h => Or.inl h, fun h => h.elim id (fun ⟨t, q1, q2⟩ => by have := q2.1; omega)⟩, ?_⟩
    simp only [spec_CanReplace.l1]
    rw [b_wrap ((s : Int) + _) (by omega) (by omega), if_neg (by omega), b_wrap _ (by omega) (by omega)]
    rfl
  | succ d ih =>
    intro k s f hd hs hk
    obtain ⟨k, rfl⟩ : ∃ m, k = m + 1 := ⟨k - 1, by omega⟩
    have w2 : Unit → wrap64 ((s : Int) + 1) = ((s + 1 : Nat) : Int) := fun _ => by rw [b_wrap _ (by omega) (by omega)]; omega
    have kk : k + 1 - (d + 1) - 1 = k - d - 1 := by omega
    rw [kk]
    simp only [spec_CanReplace.l1]
    rw [b_wrap ((s : Int) + _) (by omega) (by omega), if_pos (by omega)]
    cases f with
    | true =>
      obtain ⟨r, q1, q2⟩ := ih k (s + 1) true (by omega) (by omega) (by omega)
      refine ⟨r, ?_, by rw [if_pos rfl, w2 (), q2]⟩
      rw [q1]; simp
    | false =>
      rw [if_neg (by decide), b_wrap ((i : Int) - (s : Int)) (by omega) (by omega)]
      by_cases c1 : s ≤ i
      · rw [if_pos (by omega)]
        by_cases c2 : i < s + a.length
        · have a1 := ha.2.2.2 (i - s) (by omega)
          have b1 := hb.2.2.2 i hi
          have m1 := M_bd a b ha hb s (by omega) a.length (Nat.le_refl _)
          have m2 : 0 ≤ St a b s ∧ St a b s ≤ 10000 := by unfold St; exact m1
          rw [if_pos (by omega), stand_t a b ha hb s (by omega) k (by omega)]
          simp only [Option.bind_some]
          rw [if_pos (by omega), if_pos (by omega), if_pos (by omega), show (i : Int) - (s : Int) = ((i - s : Nat) : Int) by omega, b_rdN, b_rdN, b_wrap (a.getD (i - s) 0) (by omega) (by omega), b_wrap (b.getD i 0) (by omega) (by omega), b_wrap (St a b s + _) (by omega) (by omega), w2 ()]
          obtain ⟨r, q1, q2⟩ := ih k (s + 1) (St a b s + a.getD (i - s) 0 == b.getD i 0) (by omega) (by omega) (by omega)
          refine ⟨r, ?_, q2⟩
          rw [q1]
          constructor
          · rintro (h | ⟨t, t1, t2⟩)
            · exact Or.inr ⟨s, Nat.le_refl _, by omega, c1, c2, by simpa using h⟩
            · exact Or.inr ⟨t, by omega, t2⟩
          · rintro (h | ⟨t, t1, t2⟩)
            · cases h
            · by_cases e : t = s
              · subst e; exact Or.inl (by simpa using t2.2.2.2)
              · exact Or.inr ⟨t, by omega, t2⟩
        · obtain ⟨r, q1, q2⟩ := ih k (s + 1) false (by omega) (by omega) (by omega)
          refine ⟨r, ?_, by rw [if_neg (by omega), w2 (), q2]⟩
          rw [q1]
          constructor
          · rintro (h | ⟨t, t1, t2⟩)
            · cases h
            · exact Or.inr ⟨t, by omega, t2⟩
          · rintro (h | ⟨t, t1, t2⟩)
            · cases h
            · by_cases e : t = s
              · subst e; exact absurd t2.2.2.1 c2
              · exact Or.inr ⟨t, by omega, t2⟩
      · obtain ⟨r, q1, q2⟩ := ih k (s + 1) false (by omega) (by omega) (by omega)
        refine ⟨r, ?_, by rw [if_neg (by omega), w2 (), q2]⟩
        rw [q1]
        constructor
        · rintro (h | ⟨t, t1, t2⟩)
          · cases h
          · exact Or.inr ⟨t, by omega, t2⟩
        · rintro (h | ⟨t, t1, t2⟩)
          · cases h
          · by_cases e : t = s
            · subst e; exact absurd t2.2.1 c1
            · exact Or.inr ⟨t, by omega, t2⟩

theorem sl0_l (d : Nat) : ∀ (k i : Nat), b.length - i = d → i ≤ b.length → 200 + 50 * d < k →
    ∃ r : Bool, (r = true ↔ ∀ j, i ≤ j → j < b.length → ∃ t, cov a b t j) ∧ spec_CanReplace.l0 k a b (i : Int) = some (r, 0) := by
  have h0 := hb.1
  have h0a := ha.1
  induction d with
  | zero =>
    intro k i hd hi hk
    obtain ⟨k, rfl⟩ : ∃ m, k = m + 1 := ⟨k - 1, by omega⟩
    refine ⟨true, ⟨fun _ j h1 h2 => by omega, fun _ => rfl⟩, ?_⟩
    simp only [spec_CanReplace.l0]; rw [if_neg (by omega)]
  | succ d ih =>
    intro k i hd hi hk
    obtain ⟨k, rfl⟩ : ∃ m, k = m + 1 := ⟨k - 1, by omega⟩
    obtain ⟨r, q1, q2⟩ := sl1_l a b ha hb i (by omega) (b.length + 1 - a.length) k 0 false (by omega) (by omega) (by omega)
    simp only [spec_CanReplace.l0]; rw [if_pos (by omega), show (0 : Int) = ((0 : Nat) : Int) from rfl, q2]
    cases r with
    | false =>
      refine ⟨false, ⟨(fun h => by cases h), fun h => ?_⟩, by simp⟩
      obtain ⟨t, ht⟩ := h i (Nat.le_refl _) (by omega)
      exact q1.mpr (Or.inr ⟨t, Nat.zero_le _, ht⟩)
    | true =>
      obtain ⟨q, p1, p2⟩ := ih (k - (b.length + 1 - a.length) - 1) (i + 1) (by omega) (by omega) (by omega)
      refine ⟨q, ?_, by rw [if_pos rfl, p2]; rfl⟩
      rw [p1]
      refine ⟨fun h j h1 h2 => ?_, fun h j h1 h2 => h j (by omega) h2⟩
      by_cases e : j = i
      · subst e
        rcases q1.mp rfl with h' | ⟨t, _, ht⟩
        · cases h'
        · exact ⟨t, ht⟩
      · exact h j (by omega) h2

theorem il1_l (s : Nat) (h : s + a.length ≤ b.length) (d : Nat) : ∀ (k j : Nat) (F : List Bool), a.length - j = d → j ≤ a.length → F.length = b.length → d < k →
    ∃ F' : List Bool, F'.length = b.length ∧ (∀ i, i < b.length → (F'.getD i false = true ↔ (F.getD i false = true ∨ (s + j ≤ i ∧ i < s + a.length ∧ St a b s + a.getD (i - s) 0 = b.getD i 0)))) ∧
      impl_CanReplace.l1 k a b F (s : Int) (St a b s) a (a.length : Int) (j : Int) = impl_CanReplace.l0 (k - d - 1) a b F' ((s + 1 : Nat) : Int) := by
  have h0 := hb.1
  have h0a := ha.1
  have m1 := M_bd a b ha hb s h a.length (Nat.le_refl _)
  have m2 : 0 ≤ St a b s ∧ St a b s ≤ 10000 := by unfold St; exact m1
  induction d with
  | zero =>
    intro k j F hd hj hF hk
    obtain ⟨k, rfl⟩ : ∃ m, k = m + 1 := ⟨k - 1, by omega⟩
    refine ⟨F, hF, fun i hi => ⟨Or.inl, fun h => h.elim id (fun q => by omega)⟩, ?_⟩
    simp only [impl_CanReplace.l1]; rw [if_neg (by omega), b_wrap _ (by omega) (by omega)]
    rfl
  | succ d ih =>
    intro k j F hd hj hF hk
    obtain ⟨k, rfl⟩ : ∃ m, k = m + 1 := ⟨k - 1, by omega⟩
    have a1 := ha.2.2.2 j (by omega)
    have w : Unit → wrap64 ((s : Int) + (j : Int)) = ((s + j : Nat) : Int) := fun _ => by rw [b_wrap _ (by omega) (by omega)]; omega
    have w2 : Unit → wrap64 ((j : Int) + 1) = ((j + 1 : Nat) : Int) := fun _ => by rw [b_wrap _ (by omega) (by omega)]; omega
    have kk : k + 1 - (d + 1) - 1 = k - d - 1 := by omega
    rw [kk]
    simp only [impl_CanReplace.l1]
    rw [if_pos (by omega), if_pos (by omega), if_pos (by omega), w (), if_pos (by omega), if_pos (by omega), b_rdN, b_rdN, b_w16 _ (by omega) (by omega), w2 ()]
    by_cases c : St a b s + a.getD j 0 = b.getD (s + j) 0
    · rw [if_pos c, if_pos (by omega), Int.toNat_natCast]
      obtain ⟨F', f1, f2, f3⟩ := ih k (j + 1) (F.set (s + j) true) (by omega) (by omega) (by rw [List.length_set]; exact hF) (by omega)
      refine ⟨F', f1, fun i hi => ?_, f3⟩
      rw [f2 i hi]
      by_cases e : i = s + j
      · subst e
        have g : (F.set (s + j) true).getD (s + j) false = true := by rw [List.getD_eq_getElem?_getD, List.getElem?_set_self (by omega)]; rfl
        rw [g]
        refine ⟨fun _ => Or.inr ⟨Nat.le_refl _, by omega, ?_⟩, fun _ => Or.inl rfl⟩
        rw [show s + j - s = j by omega]; exact c
      · have g : (F.set (s + j) true).getD i false = F.getD i false := by rw [List.getD_eq_getElem?_getD, List.getElem?_set_ne (by omega), List.getD_eq_getElem?_getD]
        rw [g]
        exact ⟨fun q => q.imp id (fun z => ⟨by omega, z.2⟩), fun q => q.imp id (fun z => ⟨by omega, z.2⟩)⟩
    · rw [if_neg c]
      obtain ⟨F', f1, f2, f3⟩ := ih k (j + 1) F (by omega) (by omega) hF (by omega)
      refine ⟨F', f1, fun i hi => ?_, f3⟩
      rw [f2 i hi]
      refine ⟨fun q => q.imp id (fun z => ⟨by omega, z.2⟩), fun q => q.imp id (fun z => ⟨?_, z.2⟩)⟩
      by_cases e : i = s + j
      · subst e
        have z2 := z.2.2
        rw [show s + j - s = j by omega] at z2
        exact absurd z2 c
      · omega

theorem ix_l (F : List Bool) (hF : F.length ≤ 31) (d : Nat) : ∀ (k i : Nat), F.length - i = d → i ≤ F.length → d < k →
    ∃ v, slices_Index_bool_bool.l0 k F false (F.length : Int) (i : Int) = some v ∧ ((!(decide (v ≥ 0))) = true ↔ ∀ j, i ≤ j → j < F.length → F.getD j false = true) := by
  induction d with
  | zero =>
    intro k i hd hi hk
    obtain ⟨k, rfl⟩ : ∃ m, k = m + 1 := ⟨k - 1, by omega⟩
    refine ⟨-1, ?_, ⟨fun _ j h1 h2 => by omega, fun _ => rfl⟩⟩
    simp only [slices_Index_bool_bool.l0]; rw [if_neg (by omega)]
  | succ d ih =>
    intro k i hd hi hk
    obtain ⟨k, rfl⟩ : ∃ m, k = m + 1 := ⟨k - 1, by omega⟩
    have r : rdOf false F (i : Int) = F.getD i false := by unfold rdOf; rw [Int.toNat_natCast]
    simp only [slices_Index_bool_bool.l0]; rw [if_pos (by omega), if_pos (by omega), if_pos (by omega), r]
    cases hv : F.getD i false with
    | false =>
      refine ⟨i, rfl, ⟨fun q => ?_, fun q => ?_⟩⟩
      · rw [decide_eq_true (show (i : Int) ≥ 0 by omega)] at q; cases q
      · have := q i (Nat.le_refl _) (by omega); rw [hv] at this; cases this
    | true =>
      obtain ⟨v, v1, v2⟩ := ih k (i + 1) (by omega) (by omega) (by omega)
      refine ⟨v, ?_, ?_⟩
      · rw [if_neg (by decide), b_wrap _ (by omega) (by omega), show ((i : Int) + 1) = ((i + 1 : Nat) : Int) by omega]; exact v1
      · rw [v2]
        refine ⟨fun q j h1 h2 => ?_, fun q j h1 h2 => q j (by omega) h2⟩
        by_cases e : j = i
        · subst e; exact hv
        · exact q j (by omega) h2

theorem il0_l (d : Nat) : ∀ (k s : Nat) (F : List Bool), b.length + 1 - (s + a.length) = d → s ≤ b.length → F.length = b.length → (∀ i, i < b.length → (F.getD i false = true ↔ ∃ t, t < s ∧ cov a b t i)) → 200 + 50 * d < k →
    ∃ r : Bool, (r = true ↔ ∀ j, 0 ≤ j → j < b.length → ∃ t, cov a b t j) ∧ impl_CanReplace.l0 k a b F (s : Int) = some (r, 0) := by
  have h0 := hb.1
  have h0a := ha.1
  induction d with
  | zero =>
    intro k s F hd hs hF hv hk
    obtain ⟨k, rfl⟩ : ∃ m, k = m + 1 := ⟨k - 1, by omega⟩
    obtain ⟨v, v1, v2⟩ := ix_l a b ha hb F (by omega) F.length k 0 (by omega) (by omega) (by omega)
    refine ⟨!(decide (v ≥ 0)), ?_, ?_⟩
    · rw [v2]
      constructor
      · intro q j h1 h2
        obtain ⟨t, _, ht⟩ := (hv j h2).mp (q j (Nat.zero_le _) (by omega))
        exact ⟨t, ht⟩
      · intro q j h1 h2
        obtain ⟨t, ht⟩ := q j (Nat.zero_le _) (by omega)
        have := ht.1
        exact (hv j (by omega)).mpr ⟨t, by omega, ht⟩
    · simp only [impl_CanReplace.l0]
      rw [b_wrap ((s : Int) + _) (by omega) (by omega), if_neg (by omega)]
      unfold slices_Contains_bool_bool.f slices_Index_bool_bool.f
      rw [show slices_Index_bool_bool.l0 k F false (F.length : Int) 0 = some v from v1]
      rfl
  | succ d ih =>
    intro k s F hd hs hF hv hk
    obtain ⟨k, rfl⟩ : ∃ m, k = m + 1 := ⟨k - 1, by omega⟩
    obtain ⟨F', f1, f2, f3⟩ := il1_l a b ha hb s (by omega) a.length k 0 F (by omega) (by omega) hF (by omega)
    obtain ⟨r, r1, r2⟩ := ih (k - a.length - 1) (s + 1) F' (by omega) (by omega) f1 (fun i hi => by
      rw [f2 i hi, hv i hi]
      constructor
      · rintro (⟨t, t1, t2⟩ | ⟨q1, q2, q3⟩)
        · exact ⟨t, by omega, t2⟩
        · exact ⟨s, by omega, by omega, by omega, q2, q3⟩
      · rintro ⟨t, t1, t2⟩
        by_cases e : t = s
        · subst e; exact Or.inr ⟨by have := t2.2.1; omega, t2.2.2.1, t2.2.2.2⟩
        · exact Or.inl ⟨t, by omega, t2⟩) (by omega)
    refine ⟨r, r1, ?_⟩
    simp only [impl_CanReplace.l0]
    rw [b_wrap ((s : Int) + _) (by omega) (by omega), if_pos (by omega), stands_t a b ha hb s (by omega) k (by omega)]
    simp only [Option.bind_some]
    rw [show (0 : Int) = ((0 : Nat) : Int) from rfl, f3, r2]
    rfl
end

theorem rep_t (a b : List Int) (wa : ∀ j : Nat, -32768 ≤ a.getD j 0 ∧ a.getD j 0 ≤ 32767) (wb : ∀ j : Nat, -32768 ≤ b.getD j 0 ∧ b.getD j 0 ≤ 32767) (k : Nat) (hk : 5000 ≤ k) :
    ∃ r, spec_CanReplace.f k a b = some r ∧ impl_CanReplace.f k a b = some r := by
  obtain ⟨k, rfl⟩ : ∃ m, k = m + 1 := ⟨k - 1, by omega⟩
  obtain ⟨p, p1, p2⟩ := cutter_t a wa
  obtain ⟨q, q1, q2⟩ := cutter_t b wb
  unfold spec_CanReplace.f impl_CanReplace.f
  rw [(p2 (k + 1) (by omega)).1, (p2 (k + 1) (by omega)).2, (q2 (k + 1) (by omega)).1, (q2 (k + 1) (by omega)).2]
  simp only [Option.bind_some, spec_CanReplace.j0, impl_CanReplace.j0]
  cases p with
  | false => exact ⟨(false, 1), by simp, by simp⟩
  | true =>
    cases q with
    | false => exact ⟨(false, 1), by simp, by simp⟩
    | true =>
      have ha := p1 rfl
      have hb := q1 rfl
      have h0 := hb.1
      have h0a := ha.1
      obtain ⟨r, r1, r2⟩ := sl0_l a b ha hb b.length k 0 (by omega) (by omega) (by omega)
      obtain ⟨s, s1, s2⟩ := il0_l a b ha hb (b.length + 1 - a.length) k 0 (List.replicate b.length false) (by omega) (by omega) (by simp) (fun i hi => by
        rw [List.getD_eq_getElem?_getD, List.getElem?_replicate, if_pos hi]
        refine ⟨(fun h => by cases h), fun ⟨t, t1, _⟩ => by omega⟩) (by omega)
      have e : r = s := Bool.eq_iff_iff.mpr (r1.trans s1.symm)
      subst e
      refine ⟨(r, 0), ?_, ?_⟩
      · simp only [if_true, Bool.not_true, Bool.false_eq_true, if_false]; exact r2
      · simp only [if_true, Bool.not_true, Bool.false_eq_true, if_false]
        rw [if_pos (by omega), if_pos (by omega), Int.toNat_natCast]; exact s2

theorem FnExactCanReplace : laws_FnExactCanReplace.Pure := by
  intro l m _ _ hw _ _ hw'
  by_cases hl : (l.length : Int) > 1048576
  · exact ⟨0, by unfold laws_FnExactCanReplace.f; rw [if_pos hl]⟩
  by_cases hm : (m.length : Int) > 1048576
  · exact ⟨0, by unfold laws_FnExactCanReplace.f; rw [if_neg hl, if_pos hm]⟩
  have wf : ∀ x : List Int, (∀ v ∈ x, (Lit.int .i16 v).wf = true) → ∀ j : Nat, -32768 ≤ x.getD j 0 ∧ x.getD j 0 ≤ 32767 := by
    intro x hx j
    rw [List.getD_eq_getElem?_getD]
    by_cases hj : j < x.length
    · rw [List.getElem?_eq_getElem hj]
      have := hx _ (List.getElem_mem hj)
      simp [Lit.wf, IntKind.min, IntKind.max, IntKind.bits, IntKind.signed] at this
      simpa using this
    · rw [List.getElem?_eq_none (by omega)]; simp
  obtain ⟨r, r1, r2⟩ := rep_t l m (wf l hw) (wf m hw') (1048577 + 1) (by omega)
  refine ⟨1048577 + 1, ?_⟩
  have T1 := laws_toCutter_t l (by omega) (1048577 + 1) (by omega)
  have T2 := laws_toCutter_t m (by omega) (1048577 + 1) (by omega)
  have U1 := laws_toCutter_t l (by omega) 1048577 (by omega)
  have U2 := laws_toCutter_t m (by omega) 1048577 (by omega)
  have E1 := laws_eqCutter_t l (by omega) 1048577 (by omega)
  have E2 := laws_eqCutter_t m (by omega) 1048577 (by omega)
  generalize hk : (1048577 : Nat) = k at *
  simp only [laws_FnExactCanReplace.f, if_neg hl, if_neg hm, T1, T2, r1, r2, Option.bind_some, bne_self_eq_false, Bool.false_eq_true, if_false, laws_FnExactCanReplace.j0, U1, U2, E1, E2, if_true]

end Go.Proofs.Ytobngbphmhggkab.Pure
