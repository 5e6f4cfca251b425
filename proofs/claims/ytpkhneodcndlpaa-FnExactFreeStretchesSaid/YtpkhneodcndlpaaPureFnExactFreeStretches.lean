/- The pure statement of the law FnExactFreeStretches is proved: for every input that the law speaks of, the law's function answers true. No conditions beyond the statement's own. -/
import Derived.Test.YtpkhneodcndlpaaFFnExactFreeStretchesx
import Derived.Test.YtpkhneodcndlpaaShapeFnExactFreeStretches
namespace Go.Proofs.Ytpkhneodcndlpaa.Pure
open Go.RowKit Go.Proofs.Ytpkhneodcndlpaa.FFnExactFreeStretches Go.Proofs.YtpkhneodcndlpaaW.PrintWords Go.Proofs.YtpkhneodcndlpaaW.PrintLast
set_option linter.unusedVariables false

theorem b_wrap (x : Int) (h : -9223372036854775808 ≤ x) (h' : x ≤ 9223372036854775807) : wrap64 x = x := by
  unfold wrap64; omega

theorem b_rd (l : List Int) (i : Nat) (h : i < l.length) : rd l (i : Int) = l[i] := by
  unfold rd; rw [List.getD_eq_getElem?_getD, Int.toNat_natCast, List.getElem?_eq_getElem h]; rfl

theorem b_take (l : List Int) (i : Nat) (h : i < l.length) : l.take (i + 1) = l.take i ++ [l[i]] := by
  rw [List.take_succ_eq_append_getElem h]

theorem b_set (x : List Int) (i : Nat) (v : Int) (h : i < x.length) : (x.set i v).take (i + 1) = x.take i ++ [v] := by
  have h' : i < (x.set i v).length := by rw [List.length_set]; exact h
  rw [List.take_succ_eq_append_getElem h', List.getElem_set_self, List.take_set_of_le (Nat.le_refl i)]
theorem laws_eqBoolS_l (l : List Bool) (hl : l.length ≤ 1048576) (d : Nat) : ∀ (k : Nat) (i : Nat), l.length - i = d → d < k → laws_eqBoolS.l0 k l l (i : Int) = some true := by
  induction d with
  | zero =>
    intro k i hd hk
    obtain ⟨k, rfl⟩ : ∃ m, k = m + 1 := ⟨k - 1, by omega⟩
    simp only [laws_eqBoolS.l0]; rw [if_neg (by omega)]
  | succ d ih =>
    intro k i hd hk
    obtain ⟨k, rfl⟩ : ∃ m, k = m + 1 := ⟨k - 1, by omega⟩
    simp only [laws_eqBoolS.l0]; rw [if_pos (by omega), if_pos (by omega), if_pos (by omega), if_neg (by simp)]
    rw [b_wrap _ (by omega) (by omega), show ((i : Int) + 1) = ((i + 1 : Nat) : Int) by omega]
    exact ih k (i + 1) (by omega) (by omega)

theorem laws_eqBoolS_t (l : List Bool) (hl : l.length ≤ 1048576) (k : Nat) (hk : l.length < k) : laws_eqBoolS.f k l l = some true := by
  unfold laws_eqBoolS.f
  rw [if_pos rfl]
  exact laws_eqBoolS_l l hl l.length k 0 (by omega) hk
theorem tm (a b : Nat) : Int.tmod (a : Int) (b : Int) = ((a % b : Nat) : Int) := rfl
theorem rdb (h : List Bool) (i : Nat) : rdOf false h (i : Int) = h.getD i false := by unfold rdOf; rw [Int.toNat_natCast]
theorem bset (x : List Bool) (i : Nat) (v : Bool) (h : i < x.length) : (x.set i v).take (i + 1) = x.take i ++ [v] := by
  have h' : i < (x.set i v).length := by rw [List.length_set]; exact h
  rw [List.take_succ_eq_append_getElem h', List.getElem_set_self, List.take_set_of_le (Nat.le_refl i)]
theorem toBoolS_l (l : List Bool) (hl : l.length ≤ 140737488355328) (d : Nat) : ∀ (k : Nat) (x : List Bool) (i : Nat), l.length - i = d → d < k → x.length = l.length → x.take i = l.take i → laws_toBoolS.l0 k l x (i : Int) = some l := by
  induction d with
  | zero =>
    intro k x i hd hk hx ht
    obtain ⟨k, rfl⟩ : ∃ m, k = m + 1 := ⟨k - 1, by omega⟩
    simp only [laws_toBoolS.l0]; rw [if_neg (by omega)]
    rw [List.take_of_length_le (by omega), List.take_of_length_le (by omega)] at ht
    rw [ht]
  | succ d ih =>
    intro k x i hd hk hx ht
    obtain ⟨k, rfl⟩ : ∃ m, k = m + 1 := ⟨k - 1, by omega⟩
    have hi : i < l.length := by omega
    simp only [laws_toBoolS.l0]; rw [if_pos (by omega), if_pos (by omega), if_pos (by omega)]
    rw [b_wrap _ (by omega) (by omega), rdb, Int.toNat_natCast]
    rw [show ((i : Int) + 1) = ((i + 1 : Nat) : Int) by omega]
    refine ih k _ (i + 1) (by omega) (by omega) (by rw [List.length_set]; exact hx) ?_
    rw [bset x i _ (by omega), List.take_succ_eq_append_getElem hi, ht, List.getD_eq_getElem?_getD, List.getElem?_eq_getElem hi]
    rfl
theorem toBoolS_t (l : List Bool) (hl : l.length ≤ 1048576) (k : Nat) (hk : l.length < k) : laws_toBoolS.f k l = some l := by
  unfold laws_toBoolS.f
  rw [if_pos (by omega), if_pos (by omega)]
  exact toBoolS_l l (by omega) l.length k _ 0 (by omega) hk (by rw [List.length_replicate]; omega) (by simp)
theorem markBoolS_l (d : Nat) : ∀ (k : Nat) (x : List Bool) (a : Int) (i : Nat), x.length - i = d → x.length ≤ 1048576 → d < k → 0 ≤ a → a ≤ 4611686018427387904 - d → ∃ y, laws_markBoolS.l0 k x a (i : Int) = some (a + d, y) := by
  induction d with
  | zero =>
    intro k x a i hd hx hk ha hb
    obtain ⟨k, rfl⟩ : ∃ m, k = m + 1 := ⟨k - 1, by omega⟩
    refine ⟨x, ?_⟩
    simp only [laws_markBoolS.l0]; rw [if_neg (by omega)]; simp
  | succ d ih =>
    intro k x a i hd hx hk ha hb
    obtain ⟨k, rfl⟩ : ∃ m, k = m + 1 := ⟨k - 1, by omega⟩
    simp only [laws_markBoolS.l0]; rw [if_pos (by omega), if_pos (by omega), Int.toNat_natCast]
    rw [b_wrap _ (by omega) (by omega), b_wrap _ (by omega) (by omega), show ((i : Int) + 1) = ((i + 1 : Nat) : Int) by omega]
    obtain ⟨y, hy⟩ := ih k (x.set i (Int.tmod a 3 == 0)) (a + 1) (i + 1) (by rw [List.length_set]; omega) (by rw [List.length_set]; exact hx) (by omega) (by omega) (by omega)
    refine ⟨y, ?_⟩
    rw [hy]; congr 2; omega
theorem markBoolS_t (x : List Bool) (hx : x.length ≤ 1048576) (k : Nat) (hk : x.length < k) : ∃ y, laws_markBoolS.f k x 1 = some (1 + (x.length : Int), y) :=
  markBoolS_l x.length k x 1 0 (by omega) hx hk (by omega) (by omega)
theorem eqA_l (l : List S96) (hl : l.length ≤ 1048576) (d : Nat) : ∀ (k : Nat) (i : Nat), l.length - i = d → d < k → laws_eqInt64A2S.l0 k l l (i : Int) = some true := by
  induction d with
  | zero =>
    intro k i hd hk
    obtain ⟨k, rfl⟩ : ∃ m, k = m + 1 := ⟨k - 1, by omega⟩
    simp only [laws_eqInt64A2S.l0]; rw [if_neg (by omega)]
  | succ d ih =>
    intro k i hd hk
    obtain ⟨k, rfl⟩ : ∃ m, k = m + 1 := ⟨k - 1, by omega⟩
    simp only [laws_eqInt64A2S.l0, laws_eqInt64A2.f]; rw [if_pos (by omega), if_pos (by omega), if_pos (by omega), if_pos trivial, if_pos trivial, Option.bind_some, if_pos rfl]
    rw [b_wrap _ (by omega) (by omega), show ((i : Int) + 1) = ((i + 1 : Nat) : Int) by omega]
    exact ih k (i + 1) (by omega) (by omega)
theorem eqA_t (l : List S96) (hl : l.length ≤ 1048576) (k : Nat) (hk : l.length < k) : laws_eqInt64A2S.f k l l = some true := by
  unfold laws_eqInt64A2S.f
  rw [if_pos rfl]
  exact eqA_l l hl l.length k 0 (by omega) hk
theorem markA_l (d : Nat) : ∀ (k : Nat) (x : List S96) (a : Int) (i : Nat), x.length - i = d → x.length ≤ 1048576 → d < k → 0 ≤ a → a ≤ 4611686018427387904 - 2 * d →
    ∃ y, laws_markInt64A2S.l0 k x a (i : Int) = some (a + 2 * d, y) ∧ y.length = x.length ∧ (∀ j, j < i → y.getD j z96 = x.getD j z96) ∧ (∀ j, i ≤ j → j < x.length → y.getD j z96 = ⟨a + 2 * ((j - i : Nat) : Int), a + 2 * ((j - i : Nat) : Int) + 1⟩) := by
  induction d with
  | zero =>
    intro k x a i hd hx hk ha hb
    obtain ⟨k, rfl⟩ : ∃ m, k = m + 1 := ⟨k - 1, by omega⟩
    refine ⟨x, ?_, rfl, fun _ _ => rfl, fun j h1 h2 => by omega⟩
    simp only [laws_markInt64A2S.l0]; rw [if_neg (by omega)]; simp
  | succ d ih =>
    intro k x a i hd hx hk ha hb
    obtain ⟨k, rfl⟩ : ∃ m, k = m + 1 := ⟨k - 1, by omega⟩
    have w1 : wrap64 (a + 1) = a + 1 := b_wrap _ (by omega) (by omega)
    have w2 : wrap64 (a + 1 + 1) = a + 2 := by rw [b_wrap _ (by omega) (by omega)]; omega
    simp only [laws_markInt64A2S.l0, w1, w2]; rw [if_pos (by omega), if_pos (by omega), Int.toNat_natCast]
    rw [b_wrap _ (by omega) (by omega), show ((i : Int) + 1) = ((i + 1 : Nat) : Int) by omega]
    obtain ⟨y, hy, hl, h1, h2⟩ := ih k (x.set i ⟨a, a + 1⟩) (a + 2) (i + 1) (by rw [List.length_set]; omega) (by rw [List.length_set]; exact hx) (by omega) (by omega) (by omega)
    refine ⟨y, ?_, by rw [hl, List.length_set], ?_, ?_⟩
    · rw [hy]; congr 2; omega
    · intro j hj
      rw [h1 j (by omega)]
      simp only [List.getD_eq_getElem?_getD]; rw [List.getElem?_set_ne (by omega)]
    · intro j hj hj'
      by_cases e : j = i
      · subst e
        rw [h1 j (by omega)]
        simp only [List.getD_eq_getElem?_getD]; rw [List.getElem?_set_self (by omega)]; simp
      · rw [h2 j (by omega) (by rw [List.length_set]; exact hj')]
        rw [show a + 2 + 2 * ((j - (i + 1) : Nat) : Int) = a + 2 * ((j - i : Nat) : Int) by omega]
theorem heldA_l (x : List S96) (hx : x.length ≤ 1048576) (d : Nat) : ∀ (k : Nat) (a : Int) (i : Nat), x.length - i = d → d < k → 0 ≤ a → a ≤ 4611686018427387904 - 2 * d → (∀ j, i ≤ j → j < x.length → x.getD j z96 = ⟨a + 2 * ((j - i : Nat) : Int), a + 2 * ((j - i : Nat) : Int) + 1⟩) →
    laws_heldInt64A2S.l0 k x a (i : Int) = some (a + 2 * d) := by
  induction d with
  | zero =>
    intro k a i hd hk ha hb h
    obtain ⟨k, rfl⟩ : ∃ m, k = m + 1 := ⟨k - 1, by omega⟩
    simp only [laws_heldInt64A2S.l0]; rw [if_neg (by omega)]; simp
  | succ d ih =>
    intro k a i hd hk ha hb h
    obtain ⟨k, rfl⟩ : ∃ m, k = m + 1 := ⟨k - 1, by omega⟩
    have h0 : rd_T96 x (i : Int) = ⟨a, a + 1⟩ := by
      have := h i (Nat.le_refl _) (by omega)
      unfold rd_T96; rw [Int.toNat_natCast, this]; simp
    have w1 : wrap64 (a + 1) = a + 1 := b_wrap _ (by omega) (by omega)
    have w2 : wrap64 (a + 1 + 1) = a + 2 := by rw [b_wrap _ (by omega) (by omega)]; omega
    simp only [laws_heldInt64A2S.l0, w1, w2, h0]; rw [if_pos (by omega), if_pos (by omega), if_pos trivial, if_pos trivial]
    rw [b_wrap _ (by omega) (by omega), show ((i : Int) + 1) = ((i + 1 : Nat) : Int) by omega]
    rw [ih k (a + 2) (i + 1) (by omega) (by omega) (by omega) (by omega) ?_]
    · congr 1; omega
    · intro j h1 h2
      rw [h j (by omega) h2]; rw [show a + 2 + 2 * ((j - (i + 1) : Nat) : Int) = a + 2 * ((j - i : Nat) : Int) by omega]
theorem markA_t (x : List S96) (hx : x.length ≤ 1048576) (k : Nat) (hk : x.length < k) : ∃ y, laws_markInt64A2S.f k x 1 = some (1 + 2 * (x.length : Int), y) ∧ laws_heldInt64A2S.f k y 1 = some (1 + 2 * (x.length : Int)) := by
  obtain ⟨y, hy, hl, _, h2⟩ := markA_l x.length k x 1 0 (by omega) hx (by omega) (by omega) (by omega)
  refine ⟨y, hy, ?_⟩
  unfold laws_heldInt64A2S.f
  rw [← hl]
  exact heldA_l y (by omega) y.length k 1 0 (by omega) (by omega) (by omega) (by omega) (fun j h0 hj => h2 j h0 (by omega))
/-- Step i is held. -/
def hd (h : List Bool) (i : Nat) : Bool := h.getD (i % h.length) false
/-- How many steps from i on are free, m at most. -/
def rl (h : List Bool) : Nat → Nat → Nat
  | 0, _ => 0
  | m + 1, i => if hd h i = true then 0 else 1 + rl h m (i + 1)
/-- A free stretch begins at step i. -/
def st (h : List Bool) (i : Nat) : Bool := !(hd h i) && hd h (i + h.length - 1)
def gg (h : List Bool) (i : Nat) : S96 := ⟨((i % h.length : Nat) : Int), ((rl h h.length i : Nat) : Int)⟩
section
variable {h : List Bool}
theorem hd_n (i : Nat) : hd h (h.length + i) = hd h i := by unfold hd; rw [Nat.add_mod_left]
theorem hd_n' (i : Nat) : hd h (i + h.length) = hd h i := by rw [Nat.add_comm]; exact hd_n i
theorem hd_lt (i : Nat) (hi : i < h.length) : hd h i = h.getD i false := by unfold hd; rw [Nat.mod_eq_of_lt hi]
theorem rl_held (m i : Nat) (e : hd h i = true) : rl h m i = 0 := by
  cases m with
  | zero => rfl
  | succ m => rw [rl, if_pos e]
theorem rl_n (m : Nat) : ∀ i, rl h m (h.length + i) = rl h m i := by
  induction m with
  | zero => intro i; rfl
  | succ m ih =>
    intro i
    rw [rl, rl, hd_n, Nat.add_assoc, ih (i + 1)]
theorem rl_le (m : Nat) : ∀ i, rl h m i ≤ m := by
  induction m with
  | zero => intro i; exact Nat.le_refl _
  | succ m ih =>
    intro i
    rw [rl]
    split
    · omega
    · have := ih (i + 1); omega
theorem rl_free (m : Nat) : ∀ i j, j < rl h m i → hd h (i + j) = false := by
  induction m with
  | zero => intro i j hj; exact absurd hj (by simp [rl])
  | succ m ih =>
    intro i j hj
    rw [rl] at hj
    by_cases e : hd h i = true
    · rw [if_pos e] at hj; omega
    · rw [if_neg e] at hj
      cases j with
      | zero => simpa using e
      | succ j =>
        rw [show i + (j + 1) = i + 1 + j by omega]
        exact ih (i + 1) j (by omega)
theorem rl_end (m : Nat) : ∀ i, rl h m i < m → hd h (i + rl h m i) = true := by
  induction m with
  | zero => intro i hj; omega
  | succ m ih =>
    intro i hj
    rw [rl] at hj ⊢
    by_cases e : hd h i = true
    · rw [if_pos e]; exact e
    · rw [if_neg e] at hj ⊢
      rw [show i + (1 + rl h m (i + 1)) = i + 1 + rl h m (i + 1) by omega]
      exact ih (i + 1) (by omega)
theorem rl_stop (m : Nat) : ∀ i m', m ≤ m' → hd h (i + m) = true → rl h m' i = rl h m i := by
  induction m with
  | zero => intro i m' _ e; exact rl_held m' i e
  | succ m ih =>
    intro i m' hm e
    obtain ⟨m', rfl⟩ : ∃ q, m' = q + 1 := ⟨m' - 1, by omega⟩
    rw [rl, rl, ih (i + 1) m' (by omega) (by rw [show i + 1 + m = i + (m + 1) by omega]; exact e)]
theorem st_n (i : Nat) (hn : 0 < h.length) : st h (h.length + i) = st h i := by
  unfold st
  rw [hd_n, show h.length + i + h.length - 1 = h.length + (i + h.length - 1) by omega, hd_n]
theorem gg_n (i : Nat) : gg h (h.length + i) = gg h i := by unfold gg; rw [Nat.add_mod_left, rl_n]
end
/-- What the model makes of the stretches. -/
def fin (h : List Bool) (L : List S96) : List S96 := if L.length = 0 then (if hd h 0 = true then L else [⟨0, (h.length : Int)⟩]) else L
theorem sl1 (h : List Bool) (hn : 8 ≤ h.length ∧ h.length ≤ 360) (i : Nat) (hi : i < h.length) (acc : List S96) (ha : acc.length ≤ 1000) : ∀ (m j k : Nat), j + m = h.length →
    spec_l05Free.l1 (k + (rl h m (i + j) + 1)) h (h.length : Int) acc (i : Int) (j : Int) = spec_l05Free.l0 k h (h.length : Int) (acc ++ [⟨(i : Int), ((j + rl h m (i + j) : Nat) : Int)⟩]) ((i + 1 : Nat) : Int) := by
  have wi : wrap64 ((i : Int) + 1) = ((i + 1 : Nat) : Int) := by rw [b_wrap _ (by omega) (by omega)]; omega
  intro m
  induction m with
  | zero =>
    intro j k hj
    rw [rl, Nat.zero_add]
    simp only [spec_l05Free.l1, wi]
    rw [if_neg (by omega), if_pos (by omega)]
    rfl
  | succ m ih =>
    intro j k hj
    have wj : wrap64 ((i : Int) + (j : Int)) = ((i + j : Nat) : Int) := by rw [b_wrap _ (by omega) (by omega)]; omega
    have wj1 : wrap64 ((j : Int) + 1) = ((j + 1 : Nat) : Int) := by rw [b_wrap _ (by omega) (by omega)]; omega
    have hml : (i + j) % h.length < h.length := Nat.mod_lt _ (by omega)
    rw [rl]
    by_cases e : hd h (i + j) = true
    · rw [if_pos e, Nat.zero_add, Nat.add_zero]
      simp only [spec_l05Free.l1, wi, wj, tm, rdb]
      rw [if_pos (by omega), if_neg (by omega), if_pos (by omega), if_pos (by omega), if_pos (show h.getD ((i + j) % h.length) false = true from e), if_pos (by omega)]
      rfl
    · rw [if_neg e]
      have := ih (j + 1) k (by omega)
      rw [show i + (j + 1) = i + j + 1 by omega] at this
      rw [show k + (1 + rl h m (i + j + 1) + 1) = (k + (rl h m (i + j + 1) + 1)) + 1 by omega]
      generalize k + (rl h m (i + j + 1) + 1) = K at this ⊢
      simp only [spec_l05Free.l1, wj, wj1, tm, rdb]
      rw [if_pos (by omega), if_neg (by omega), if_pos (by omega), if_pos (by omega), if_neg (show ¬ h.getD ((i + j) % h.length) false = true from e), this, show j + 1 + rl h m (i + j + 1) = j + (1 + rl h m (i + j + 1)) by omega]
theorem sl0 (h : List Bool) (hn : 8 ≤ h.length ∧ h.length ≤ 360) (d : Nat) : ∀ (i : Nat) (acc : List S96), h.length - i = d → i ≤ h.length → acc.length ≤ i →
    ∃ k, spec_l05Free.l0 k h (h.length : Int) acc (i : Int) = some (fin h (acc ++ ((List.range' i (h.length - i)).filter (st h)).map (gg h))) := by
  induction d with
  | zero =>
    intro i acc hd' hi ha
    refine ⟨1, ?_⟩
    have e : i = h.length := by omega
    subst e
    rw [Nat.sub_self, List.range'_zero, List.filter_nil, List.map_nil, List.append_nil]
    simp only [spec_l05Free.l0]
    have e0 : rdOf false h 0 = hd h 0 := by rw [hd_lt 0 (by omega)]; exact rdb h 0
    rw [if_neg (by omega), e0]
    unfold fin
    by_cases e1 : acc.length = 0
    · rw [if_pos (by omega), if_pos (by omega), if_pos e1]
      split <;> rfl
    · rw [if_neg (by omega), if_neg e1]
  | succ d ih =>
    intro i acc hd' hi ha
    have hlt : i < h.length := by omega
    have wi : wrap64 ((i : Int) + 1) = ((i + 1 : Nat) : Int) := by rw [b_wrap _ (by omega) (by omega)]; omega
    have wp : wrap64 (wrap64 ((i : Int) + (h.length : Int)) - 1) = ((i + h.length - 1 : Nat) : Int) := by rw [b_wrap ((i : Int) + (h.length : Int)) (by omega) (by omega), b_wrap _ (by omega) (by omega)]; omega
    have hml : (i + h.length - 1) % h.length < h.length := Nat.mod_lt _ (by omega)
    have er : List.range' i (h.length - i) = i :: List.range' (i + 1) (h.length - (i + 1)) := by
      rw [show h.length - i = (h.length - (i + 1)) + 1 by omega, List.range'_succ]
    have ei : h.getD i false = hd h i := (hd_lt i hlt).symm
    have ep : h.getD ((i + h.length - 1) % h.length) false = hd h (i + h.length - 1) := rfl
    rw [er]
    by_cases e : hd h i = true
    · obtain ⟨k, hk⟩ := ih (i + 1) acc (by omega) (by omega) (by omega)
      refine ⟨k + 2, ?_⟩
      rw [List.filter_cons_of_neg (by unfold st; rw [e]; simp), ← hk]
      simp only [spec_l05Free.l0, spec_l05Free.j1, rdb, wi, ei]
      rw [if_pos (by omega), if_pos (by omega), if_pos (by omega), if_pos e, if_pos trivial]
    · by_cases e2 : hd h (i + h.length - 1) = true
      · obtain ⟨k, hk⟩ := ih (i + 1) (acc ++ [gg h i]) (by omega) (by omega) (by rw [List.length_append, List.length_singleton]; omega)
        refine ⟨k + (rl h h.length i + 1) + 2, ?_⟩
        have hs : st h i = true := by unfold st; rw [e2]; simpa using e
        rw [List.filter_cons_of_pos hs, List.map_cons, show acc ++ gg h i :: List.map (gg h) ((List.range' (i + 1) (h.length - (i + 1))).filter (st h)) = (acc ++ [gg h i]) ++ List.map (gg h) ((List.range' (i + 1) (h.length - (i + 1))).filter (st h)) by simp, ← hk]
        have := sl1 h hn i hlt acc (by omega) h.length 0 k (by omega)
        simp only [Nat.add_zero, Nat.zero_add] at this
        have hg : gg h i = ⟨(i : Int), ((rl h h.length i : Nat) : Int)⟩ := by unfold gg; rw [Nat.mod_eq_of_lt hlt]
        rw [hg, ← this]
        simp only [spec_l05Free.l0, spec_l05Free.j1, rdb, wp, tm, ei, ep, e2, Bool.not_true, Bool.false_eq_true, if_false]
        rw [if_pos (by omega), if_pos (by omega), if_pos (by omega), if_neg e, if_neg (by omega), if_pos (by omega), if_pos (by omega)]
        rfl
      · obtain ⟨k, hk⟩ := ih (i + 1) acc (by omega) (by omega) (by omega)
        refine ⟨k + 2, ?_⟩
        have e2' : hd h (i + h.length - 1) = false := by simpa using e2
        rw [List.filter_cons_of_neg (by unfold st; rw [e2']; simp), ← hk]
        simp only [spec_l05Free.l0, spec_l05Free.j1, rdb, wp, tm, wi, ei, ep, e2', Bool.not_false, if_true]
        rw [if_pos (by omega), if_pos (by omega), if_pos (by omega), if_neg e, if_neg (by omega), if_pos (by omega), if_pos (by omega)]
theorem idx (h : List Bool) (hn : h.length ≤ 360) (d : Nat) : ∀ i : Nat, h.length - i = d → i ≤ h.length → (∀ j, j < i → h.getD j false = false) →
    ∃ k r, slices_Index_bool_bool.l0 k h true (h.length : Int) (i : Int) = some r ∧ ((r = -1 ∧ ∀ j, j < h.length → h.getD j false = false) ∨ ∃ f : Nat, r = (f : Int) ∧ f < h.length ∧ h.getD f false = true) := by
  induction d with
  | zero =>
    intro i hd' hi hj
    refine ⟨1, -1, ?_, Or.inl ⟨rfl, fun j h1 => hj j (by omega)⟩⟩
    simp only [slices_Index_bool_bool.l0]
    rw [if_neg (by omega)]
  | succ d ih =>
    intro i hd' hi hj
    have wi : wrap64 ((i : Int) + 1) = ((i + 1 : Nat) : Int) := by rw [b_wrap _ (by omega) (by omega)]; omega
    by_cases e : h.getD i false = true
    · refine ⟨1, (i : Int), ?_, Or.inr ⟨i, rfl, by omega, e⟩⟩
      simp only [slices_Index_bool_bool.l0, rdb, e]
      rw [if_pos (by omega), if_pos (by omega), if_pos (by omega), if_pos (by decide)]
    · have e' : h.getD i false = false := by simpa using e
      obtain ⟨k, r, h1, h2⟩ := ih (i + 1) (by omega) (by omega) (fun j hlt => by
        by_cases q : j = i
        · rw [q]; exact e'
        · exact hj j (by omega))
      refine ⟨k + 1, r, ?_, h2⟩
      simp only [slices_Index_bool_bool.l0, rdb, e', wi]
      rw [if_pos (by omega), if_pos (by omega), if_pos (by omega), if_neg (by decide)]
      exact h1
theorem il1 (h : List Bool) (hn : 8 ≤ h.length ∧ h.length ≤ 360) (f s : Nat) (hf : f < h.length) (hs : s ≤ f + h.length) (acc : List S96) (ha : acc.length ≤ 1000) : ∀ (m t k : Nat), t + m = f + h.length → s ≤ t →
    impl_freeStretches.l1 (k + (rl h m t + 1)) h (h.length : Int) acc (f : Int) (s : Int) (t : Int) = impl_freeStretches.l0 k h (h.length : Int) (if s < t + rl h m t then acc ++ [⟨((s % h.length : Nat) : Int), ((t + rl h m t - s : Nat) : Int)⟩] else acc) (f : Int) ((t + rl h m t + 1 : Nat) : Int) := by
  have we : wrap64 ((f : Int) + (h.length : Int)) = ((f + h.length : Nat) : Int) := by rw [b_wrap _ (by omega) (by omega)]; omega
  intro m
  induction m with
  | zero =>
    intro t k ht hst
    have wt1 : wrap64 ((t : Int) + 1) = ((t + 1 : Nat) : Int) := by rw [b_wrap _ (by omega) (by omega)]; omega
    have ws : wrap64 ((t : Int) - (s : Int)) = ((t - s : Nat) : Int) := by rw [b_wrap _ (by omega) (by omega)]; omega
    have e0 : rl h 0 t = 0 := rfl
    by_cases c : s < t
    · rw [if_pos (show s < t + rl h 0 t by omega), e0]
      simp only [Nat.zero_add, Nat.add_zero]
      simp only [impl_freeStretches.l1, we, tm, wt1, ws]
      rw [if_neg (by omega), if_pos (by omega), if_neg (by omega), if_pos (by omega)]
    · rw [if_neg (show ¬ s < t + rl h 0 t by omega), e0]
      simp only [Nat.zero_add, Nat.add_zero]
      simp only [impl_freeStretches.l1, we, tm, wt1, ws]
      rw [if_neg (by omega), if_neg (by omega)]
  | succ m ih =>
    intro t k ht hst
    have wt1 : wrap64 ((t : Int) + 1) = ((t + 1 : Nat) : Int) := by rw [b_wrap _ (by omega) (by omega)]; omega
    have ws : wrap64 ((t : Int) - (s : Int)) = ((t - s : Nat) : Int) := by rw [b_wrap _ (by omega) (by omega)]; omega
    have hml : t % h.length < h.length := Nat.mod_lt _ (by omega)
    have ei : h.getD (t % h.length) false = hd h t := rfl
    by_cases e : hd h t = true
    · have e0 : rl h (m + 1) t = 0 := rl_held _ _ e
      by_cases c : s < t
      · rw [if_pos (show s < t + rl h (m + 1) t by omega), e0]
        simp only [Nat.zero_add, Nat.add_zero]
        simp only [impl_freeStretches.l1, we, tm, wt1, ws, rdb, ei]
        rw [if_pos (by omega), if_neg (by omega), if_pos (by omega), if_pos (by omega), if_pos e, if_pos (by omega), if_pos (by omega)]
      · rw [if_neg (show ¬ s < t + rl h (m + 1) t by omega), e0]
        simp only [Nat.zero_add, Nat.add_zero]
        simp only [impl_freeStretches.l1, we, tm, wt1, ws, rdb, ei]
        rw [if_pos (by omega), if_neg (by omega), if_pos (by omega), if_pos (by omega), if_pos e, if_neg (by omega)]
    · rw [rl, if_neg e]
      have := ih (t + 1) k (by omega) (by omega)
      rw [show t + 1 + rl h m (t + 1) = t + (1 + rl h m (t + 1)) by omega] at this
      rw [show k + (1 + rl h m (t + 1) + 1) = (k + (rl h m (t + 1) + 1)) + 1 by omega, ← this]
      generalize k + (rl h m (t + 1) + 1) = K
      simp only [impl_freeStretches.l1, we, tm, wt1, rdb, ei]
      rw [if_pos (by omega), if_neg (by omega), if_pos (by omega), if_pos (by omega), if_neg e]
theorem skip (h : List Bool) (r : Nat) : ∀ s c, (∀ j, s ≤ j → j < s + r → st h j = false) → (List.range' s c).filter (st h) = (List.range' (s + r) (c - r)).filter (st h) := by
  induction r with
  | zero => intro s c _; rfl
  | succ r ih =>
    intro s c hj
    cases c with
    | zero => rw [Nat.zero_sub, List.range'_zero, List.range'_zero]
    | succ c =>
      rw [List.range'_succ, List.filter_cons_of_neg (by rw [hj s (Nat.le_refl _) (by omega)]; simp), ih (s + 1) c (fun j h1 h2 => hj j (by omega) (by omega)), show s + 1 + r = s + (r + 1) by omega, show c + 1 - (r + 1) = c - r by omega]
theorem il0 (h : List Bool) (hn : 8 ≤ h.length ∧ h.length ≤ 360) (f : Nat) (hf : f < h.length) (hh : hd h f = true) (D : Nat) : ∀ (s : Nat) (acc : List S96), f + h.length + 1 - s ≤ D → f ≤ s → s ≤ f + h.length + 1 → (s = f ∨ (1 ≤ s ∧ hd h (s - 1) = true)) → acc.length ≤ s - f →
    ∃ k, impl_freeStretches.l0 k h (h.length : Int) acc (f : Int) (s : Int) = (slices_SortFunc_2_int64_2_int64.f (acc ++ ((List.range' s (f + h.length - s)).filter (st h)).map (gg h))).bind some := by
  have we : wrap64 ((f : Int) + (h.length : Int)) = ((f + h.length : Nat) : Int) := by rw [b_wrap _ (by omega) (by omega)]; omega
  have hfn : hd h (f + h.length) = true := by rw [hd_n']; exact hh
  have stop : ∀ s acc, f + h.length ≤ s → ∃ k, impl_freeStretches.l0 k h (h.length : Int) acc (f : Int) (s : Int) = (slices_SortFunc_2_int64_2_int64.f (acc ++ ((List.range' s (f + h.length - s)).filter (st h)).map (gg h))).bind some := by
    intro s acc hle
    refine ⟨1, ?_⟩
    rw [show f + h.length - s = 0 by omega, List.range'_zero, List.filter_nil, List.map_nil, List.append_nil]
    simp only [impl_freeStretches.l0, we]
    rw [if_neg (by omega)]
  induction D with
  | zero =>
    intro s acc hD h1 h2 h3 h4
    exact stop s acc (by omega)
  | succ D ih =>
    intro s acc hD h1 h2 h3 h4
    by_cases hle : f + h.length ≤ s
    · exact stop s acc hle
    · obtain ⟨r, hr⟩ : ∃ r, r = rl h (f + h.length - s) s := ⟨_, rfl⟩
      have hrle : r ≤ f + h.length - s := by rw [hr]; exact rl_le _ _
      have hend : hd h (s + r) = true := by
        by_cases q : r < f + h.length - s
        · rw [hr]; exact rl_end _ _ (by rw [← hr]; exact q)
        · rw [show s + r = f + h.length by omega]; exact hfn
      have hl1 := fun k => il1 h hn f s hf (by omega) acc (by omega) (f + h.length - s) s k (by omega) (Nat.le_refl _)
      rw [← hr] at hl1
      by_cases h0 : r = 0
      · rw [h0, Nat.add_zero] at hend
        obtain ⟨k, hk⟩ := ih (s + 1) acc (by omega) (by omega) (by omega) (Or.inr ⟨by omega, by rw [Nat.add_sub_cancel]; exact hend⟩) (by omega)
        refine ⟨k + (r + 1) + 1, ?_⟩
        have er : List.range' s (f + h.length - s) = s :: List.range' (s + 1) (f + h.length - (s + 1)) := by
          rw [show f + h.length - s = (f + h.length - (s + 1)) + 1 by omega, List.range'_succ]
        rw [er, List.filter_cons_of_neg (by unfold st; rw [hend]; simp), ← hk]
        have := hl1 k
        rw [if_neg (by omega), h0, Nat.add_zero] at this
        rw [h0, ← this]
        simp only [impl_freeStretches.l0, we]
        rw [if_pos (by omega)]
      · have hfree : hd h s = false := by
          have := rl_free (h := h) (f + h.length - s) s 0 (by rw [← hr]; omega)
          rwa [Nat.add_zero] at this
        have hs1 : 1 ≤ s ∧ hd h (s - 1) = true := by
          rcases h3 with q | q
          · rw [q, hh] at hfree; exact absurd hfree (by decide)
          · exact q
        have hst : st h s = true := by
          unfold st
          rw [hfree, show s + h.length - 1 = (s - 1) + h.length by omega, hd_n', hs1.2]
          rfl
        have hgs : gg h s = ⟨((s % h.length : Nat) : Int), ((s + r - s : Nat) : Int)⟩ := by
          unfold gg
          rw [rl_stop (f + h.length - s) s h.length (by omega) (by rw [show s + (f + h.length - s) = f + h.length by omega]; exact hfn), ← hr, Nat.add_sub_cancel_left]
        obtain ⟨k, hk⟩ := ih (s + r + 1) (acc ++ [gg h s]) (by omega) (by omega) (by omega) (Or.inr ⟨by omega, by rw [Nat.add_sub_cancel]; exact hend⟩) (by rw [List.length_append, List.length_singleton]; omega)
        refine ⟨k + (r + 1) + 1, ?_⟩
        have er : List.range' s (f + h.length - s) = s :: List.range' (s + 1) (f + h.length - (s + 1)) := by
          rw [show f + h.length - s = (f + h.length - (s + 1)) + 1 by omega, List.range'_succ]
        have esk := skip h r (s + 1) (f + h.length - (s + 1)) (fun j a b => by
          by_cases q : j = s + r
          · unfold st; rw [q, hend]; rfl
          · unfold st
            have f2 : hd h (j - 1) = false := by
              have := rl_free (h := h) (f + h.length - s) s (j - 1 - s) (by rw [← hr]; omega)
              rwa [show s + (j - 1 - s) = j - 1 by omega] at this
            rw [show j + h.length - 1 = (j - 1) + h.length by omega, hd_n', f2, Bool.and_false])
        rw [show s + 1 + r = s + r + 1 by omega, show f + h.length - (s + 1) - r = f + h.length - (s + r + 1) by omega] at esk
        rw [er, List.filter_cons_of_pos hst, esk, List.map_cons, show acc ++ gg h s :: List.map (gg h) ((List.range' (s + r + 1) (f + h.length - (s + r + 1))).filter (st h)) = (acc ++ [gg h s]) ++ List.map (gg h) ((List.range' (s + r + 1) (f + h.length - (s + r + 1))).filter (st h)) by simp, ← hk]
        have := hl1 k
        rw [if_pos (by omega), ← hgs] at this
        rw [← this]
        simp only [impl_freeStretches.l0, we]
        rw [if_pos (by omega)]
/-- The stretches, by their beginnings. -/
def SL (h : List Bool) : List S96 := ((List.range' 0 h.length).filter (st h)).map (gg h)
theorem range_n (h : List Bool) (hn : 0 < h.length) (f : Nat) : ((List.range' h.length f).filter (st h)).map (gg h) = ((List.range' 0 f).filter (st h)).map (gg h) := by
  have e : List.range' h.length f = (List.range' 0 f).map (h.length + ·) := by
    rw [List.map_add_range', Nat.add_zero]
  rw [e, List.filter_map, List.map_map]
  have e1 : (st h ∘ fun x => h.length + x) = st h := by funext i; exact st_n i hn
  have e2 : (gg h ∘ fun x => h.length + x) = gg h := by funext i; exact gg_n i
  rw [e1, e2]
theorem sorted (h : List Bool) (hn : 8 ≤ h.length ∧ h.length ≤ 360) (f : Nat) (hf : f < h.length) : slices_SortFunc_2_int64_2_int64.f (((List.range' f h.length).filter (st h)).map (gg h)) = some (SL h) := by
  have hX : ((List.range' f h.length).filter (st h)).map (gg h) = ((List.range' f (h.length - f)).filter (st h)).map (gg h) ++ ((List.range' 0 f).filter (st h)).map (gg h) := by
    rw [← range_n h (by omega) f, ← List.map_append, ← List.filter_append]
    congr 2
    rw [show List.range' h.length f = List.range' (f + (h.length - f)) f by rw [show f + (h.length - f) = h.length by omega], List.range'_append_1, show h.length - f + f = h.length by omega]
  have hS : SL h = ((List.range' 0 f).filter (st h)).map (gg h) ++ ((List.range' f (h.length - f)).filter (st h)).map (gg h) := by
    unfold SL
    rw [← List.map_append, ← List.filter_append]
    congr 2
    have := List.range'_append_1 (s := 0) (m := f) (n := h.length - f)
    rw [Nat.zero_add] at this
    rw [this, show f + (h.length - f) = h.length by omega]
  have hperm : (SL h).Perm (((List.range' f h.length).filter (st h)).map (gg h)) := by
    rw [hX, hS]
    exact List.perm_append_comm
  have hpw : (SL h).Pairwise (fun x y => x.f0 < y.f0) := by
    unfold SL
    rw [List.pairwise_map]
    have p1 : ((List.range' 0 h.length).filter (st h)).Pairwise (· < ·) := (List.pairwise_lt_range' (s := 0) (n := h.length)).filter _
    refine p1.imp_of_mem ?_
    intro a b ha hb hab
    have ha' := List.mem_range'_1.1 (List.mem_filter.1 ha).1
    have hb' := List.mem_range'_1.1 (List.mem_filter.1 hb).1
    unfold gg
    simp only
    rw [Nat.mod_eq_of_lt (by omega), Nat.mod_eq_of_lt (by omega)]
    omega
  have hnd : ((SL h).map (·.f0)).Nodup := by
    rw [List.nodup_iff_pairwise_ne, List.pairwise_map]
    exact hpw.imp (fun q => by omega)
  have hnd2 : ((((List.range' f h.length).filter (st h)).map (gg h)).map (·.f0)).Nodup := (hperm.map _).nodup_iff.1 hnd
  have hlen : (((List.range' f h.length).filter (st h)).map (gg h)).length ≤ 1000000 := by
    rw [List.length_map]
    have := List.length_filter_le (st h) (List.range' f h.length)
    rw [List.length_range'] at this
    omega
  have hall : ∀ x ∈ ((List.range' f h.length).filter (st h)).map (gg h), 0 ≤ x.f0 ∧ x.f0 < 1000000 := by
    intro x hx
    obtain ⟨i, _, rfl⟩ := List.mem_map.1 hx
    have := Nat.mod_lt i (show 0 < h.length by omega)
    unfold gg
    simp only
    omega
  unfold slices_SortFunc_2_int64_2_int64.f
  rw [if_pos ⟨hall, hnd2, hlen⟩, ← slices_SortFunc_2_int64_2_int64.uniq _ (SL h) hnd2 hperm (hpw.imp (fun q => by omega))]
theorem none_free (h : List Bool) (hn : 8 ≤ h.length) (e : SL h = []) (e0 : hd h 0 = false) : ∀ j, j < h.length → hd h (h.length - 1 - j) = false := by
  have nost : ∀ i, i < h.length → st h i = false := by
    intro i hi
    unfold SL at e
    rw [List.map_eq_nil_iff, List.filter_eq_nil_iff] at e
    have := e i (List.mem_range'_1.2 ⟨Nat.zero_le _, by omega⟩)
    simpa using this
  have step : ∀ i, i < h.length → hd h i = false → hd h (i + h.length - 1) = false := by
    intro i hi q
    have := nost i hi
    unfold st at this
    rw [q] at this
    simpa using this
  intro j
  induction j with
  | zero =>
    intro _
    have := step 0 (by omega) e0
    rwa [Nat.zero_add] at this
  | succ j ih =>
    intro hj
    have := step (h.length - 1 - j) (by omega) (ih (by omega))
    rw [show h.length - 1 - j + h.length - 1 = (h.length - 1 - (j + 1)) + h.length by omega, hd_n'] at this
    exact this
theorem core (h : List Bool) (hn : 8 ≤ h.length ∧ h.length ≤ 360) : ∃ k L, spec_l05Free.f k h = some L ∧ impl_freeStretches.f k h = some L ∧ L.length ≤ 360 := by
  obtain ⟨k1, h1⟩ := sl0 h hn h.length 0 [] (by omega) (by omega) (by simp)
  rw [List.nil_append, Nat.sub_zero] at h1
  have h1' : spec_l05Free.f k1 h = some (fin h (SL h)) := h1
  obtain ⟨k2, r, h2, h3⟩ := idx h hn.2 h.length 0 (by omega) (by omega) (fun j hj => by omega)
  have h2' : slices_Index_bool_bool.f k2 h true = some r := h2
  have hlen : (SL h).length ≤ 360 := by
    unfold SL
    rw [List.length_map]
    have := List.length_filter_le (st h) (List.range' 0 h.length)
    rw [List.length_range'] at this
    omega
  rcases h3 with ⟨rfl, hno⟩ | ⟨f, rfl, hf, hft⟩
  · have hno' : ∀ i, hd h i = false := fun i => hno _ (Nat.mod_lt _ (by omega))
    have hSL : SL h = [] := by
      unfold SL
      rw [List.map_eq_nil_iff, List.filter_eq_nil_iff]
      intro i _
      unfold st
      rw [hno' (i + h.length - 1)]
      simp
    have hfin : fin h (SL h) = [⟨0, (h.length : Int)⟩] := by
      unfold fin
      rw [hSL, if_pos (show ([] : List S96).length = 0 from rfl), if_neg (by rw [hno' 0]; decide)]
    rw [hfin] at h1'
    refine ⟨max k1 k2, _, at_rounds (spec_l05Free.mono h) (Nat.le_max_left _ _) h1', ?_, by simp⟩
    unfold impl_freeStretches.f
    rw [at_rounds (slices_Index_bool_bool.mono h true) (Nat.le_max_right _ _) h2', Option.bind_some, if_pos (by omega)]
  · have hh : hd h f = true := by rw [hd_lt f hf]; exact hft
    obtain ⟨k3, h4⟩ := il0 h hn f hf hh (h.length + 1) f [] (by omega) (Nat.le_refl _) (by omega) (Or.inl rfl) (by simp)
    rw [List.nil_append, show f + h.length - f = h.length by omega, sorted h hn f hf, Option.bind_some] at h4
    have hfin : fin h (SL h) = SL h := by
      unfold fin
      by_cases e : (SL h).length = 0
      · have e' : SL h = [] := List.length_eq_zero_iff.1 e
        rw [if_pos e, if_pos]
        by_cases e0 : hd h 0 = true
        · exact e0
        · have := none_free h hn.1 e' (by simpa using e0) (h.length - 1 - f) (by omega)
          rw [show h.length - 1 - (h.length - 1 - f) = f by omega, hh] at this
          exact absurd this (by decide)
      · rw [if_neg e]
    rw [hfin] at h1'
    refine ⟨max k1 (max k2 k3), _, at_rounds (spec_l05Free.mono h) (by omega) h1', ?_, hlen⟩
    unfold impl_freeStretches.f
    rw [at_rounds (slices_Index_bool_bool.mono h true) (show k2 ≤ max k1 (max k2 k3) by omega) h2', Option.bind_some, if_neg (by omega)]
    exact at_rounds (fun k => (impl_freeStretches.mono_l k).1 h (h.length : Int) [] (f : Int) (f : Int)) (show k3 ≤ max k1 (max k2 k3) by omega) h4
theorem both (h : List Bool) (hl : h.length ≤ 1048576) : ∃ k L c, spec_FreeStretches.f k h = some (L, c) ∧ impl_FreeStretches.f k h = some (L, c) ∧ L.length ≤ 360 := by
  unfold spec_FreeStretches.f impl_FreeStretches.f spec_l01Steps.f impl_isSteps.f spec_l00In.f impl_inRange.f
  by_cases h1 : 8 ≤ h.length
  · rw [if_pos (by omega)]
    simp only [Option.bind_some]
    by_cases h2 : h.length ≤ 360
    · obtain ⟨k, L, e1, e2, e3⟩ := core h ⟨h1, h2⟩
      refine ⟨k, L, 0, ?_, ?_, e3⟩
      · rw [if_pos (decide_eq_true (by omega)), e1]; rfl
      · rw [if_pos (decide_eq_true (by omega)), e2]; rfl
    · refine ⟨0, [], 2, ?_, ?_, by simp⟩
      · rw [if_neg (by simp; omega)]
      · rw [if_neg (by simp; omega)]
  · rw [if_neg (by omega)]
    simp only [Option.bind_some, Bool.false_eq_true, if_false]
    exact ⟨0, [], 2, rfl, rfl, by simp⟩
theorem FnExactFreeStretches (l0 : List Bool) (hF0 : F60 l0) (y0 : l0.length * by_4 ≤ 140737488351232) : ∃ k, laws_FnExactFreeStretches.f k l0 = some true := by
  by_cases hbig : (l0.length : Int) > 1048576
  · exact ⟨0, by unfold laws_FnExactFreeStretches.f; rw [if_pos hbig]⟩
  · have hl : l0.length ≤ 1048576 := by omega
    obtain ⟨k0, L, c, h1, h2, h3⟩ := both l0 hl
    obtain ⟨k, hk⟩ : ∃ k, k = k0 + l0.length + 400 := ⟨_, rfl⟩
    have sp : ∀ k', k ≤ k' + 3 → spec_FreeStretches.f k' l0 = some (L, c) := fun k' q => at_rounds (spec_FreeStretches.mono l0) (by omega) h1
    have im : ∀ k', k ≤ k' + 3 → impl_FreeStretches.f k' l0 = some (L, c) := fun k' q => at_rounds (impl_FreeStretches.mono l0) (by omega) h2
    have tb : ∀ k', k ≤ k' + 3 → laws_toBoolS.f k' l0 = some l0 := fun k' q => toBoolS_t l0 hl k' (by omega)
    have eq : ∀ k', k ≤ k' + 3 → laws_eqInt64A2S.f k' L L = some true := fun k' q => eqA_t L (by omega) k' (by omega)
    refine ⟨k + 3, ?_⟩
    unfold laws_FnExactFreeStretches.f
    rw [if_neg hbig, tb _ (by omega), Option.bind_some, sp _ (by omega), Option.bind_some, Option.bind_some, im _ (by omega), Option.bind_some]
    simp only
    rw [eq _ (by omega), Option.bind_some, if_pos rfl, bne_self_eq_false]
    simp only [laws_FnExactFreeStretches.j0, Bool.false_eq_true, if_false]
    obtain ⟨y, hy⟩ := markBoolS_t l0 hl (k + 2) (by omega)
    rw [tb _ (by omega), Option.bind_some, laws_eqBoolS_t l0 hl _ (by omega), Option.bind_some, if_pos rfl, hy, Option.bind_some]
    simp only
    rw [if_neg (by omega), eq _ (by omega), Option.bind_some, if_pos rfl, bne_self_eq_false]
    simp only [laws_FnExactFreeStretches.j1, Bool.false_eq_true, if_false]
    obtain ⟨z, hz1, hz2⟩ := markA_t L (by omega) (k + 1) (by omega)
    rw [hz1, Option.bind_some]
    simp only
    rw [hz2, Option.bind_some, if_neg (by omega), if_pos rfl, tb _ (by omega), Option.bind_some, im _ (by omega), Option.bind_some]
    simp only
    rw [eq _ (by omega), Option.bind_some, if_pos rfl, bne_self_eq_false]
    simp only [laws_FnExactFreeStretches.j2, Bool.false_eq_true, if_false]
    have hz3 : laws_heldInt64A2S.f k z 1 = some (1 + 2 * (L.length : Int)) := by
      obtain ⟨z', hz1', hz2'⟩ := markA_t L (by omega) k (by omega)
      have := at_rounds (laws_markInt64A2S.mono L 1) (Nat.le_succ k) hz1'
      rw [hz1] at this
      obtain ⟨_, e⟩ := Prod.mk.inj (Option.some.inj this)
      rw [e]
      exact hz2'
    rw [hz3, Option.bind_some, if_neg (by omega), if_pos rfl]

end Go.Proofs.Ytpkhneodcndlpaa.Pure
