/- The pure statement of the law FnExactSameShafts is proved: for every input that the law speaks of, the law's function answers true. No conditions beyond the statement's own. -/
import Derived.Test.YtcclfndbglgbiaaFFnExactSameShaftsx
import Derived.Test.YtcclfndbglgbiaaShapeFnExactSameShafts
namespace Go.Proofs.Ytcclfndbglgbiaa.Pure
open Go.RowKit Go.Proofs.Ytcclfndbglgbiaa.FFnExactSameShafts Go.Proofs.YtcclfndbglgbiaaW.PrintWords Go.Proofs.YtcclfndbglgbiaaW.PrintLast
set_option linter.unusedVariables false

theorem b_wrap (x : Int) (h : -9223372036854775808 ≤ x) (h' : x ≤ 9223372036854775807) : wrap64 x = x := by
  unfold wrap64; omega

theorem b_rd (l : List Int) (i : Nat) (h : i < l.length) : rd l (i : Int) = l[i] := by
  unfold rd; rw [List.getD_eq_getElem?_getD, Int.toNat_natCast, List.getElem?_eq_getElem h]; rfl

theorem b_take (l : List Int) (i : Nat) (h : i < l.length) : l.take (i + 1) = l.take i ++ [l[i]] := by
  rw [List.take_succ_eq_append_getElem h]

theorem b_set (x : List Int) (i : Nat) (v : Int) (h : i < x.length) : (x.set i v).take (i + 1) = x.take i ++ [v] := by
  have h' : i < (x.set i v).length := by rw [List.length_set]; exact h
  rw [List.take_succ_eq_append_getElem h', List.getElem_set_self, List.take_set_of_le (Nat.le_refl i)]
theorem laws_toCam_l (l : List Int) (hl : l.length ≤ 140737488355328) (d : Nat) : ∀ (k : Nat) (x : List Int) (i : Nat), l.length - i = d → d < k → x.length = l.length → x.take i = l.take i → laws_toCam.l0 k l x (i : Int) = some l := by
  induction d with
  | zero =>
    intro k x i hd hk hx ht
    obtain ⟨k, rfl⟩ : ∃ m, k = m + 1 := ⟨k - 1, by omega⟩
    simp only [laws_toCam.l0]; rw [if_neg (by omega)]
    rw [List.take_of_length_le (by omega), List.take_of_length_le (by omega)] at ht
    rw [ht]
  | succ d ih =>
    intro k x i hd hk hx ht
    obtain ⟨k, rfl⟩ : ∃ m, k = m + 1 := ⟨k - 1, by omega⟩
    simp only [laws_toCam.l0]; rw [if_pos (by omega), if_pos (by omega), if_pos (by omega)]
    rw [b_wrap _ (by omega) (by omega), b_rd l i (by omega), Int.toNat_natCast]
    rw [show ((i : Int) + 1) = ((i + 1 : Nat) : Int) by omega]
    refine ih k _ (i + 1) (by omega) (by omega) (by rw [List.length_set]; exact hx) ?_
    rw [b_set x i _ (by omega), b_take l i (by omega), ht]

theorem laws_toCam_t (l : List Int) (hl : l.length ≤ 1048576) (k : Nat) (hk : l.length < k) : laws_toCam.f k l = some l := by
  unfold laws_toCam.f
  rw [if_pos (by omega), if_pos (by omega), Int.toNat_natCast]
  exact laws_toCam_l l (by omega) l.length k _ 0 (by omega) hk (by simp) rfl
theorem laws_eqCam_l (l : List Int) (hl : l.length ≤ 1048576) (d : Nat) : ∀ (k : Nat) (i : Nat), l.length - i = d → d < k → laws_eqCam.l0 k l l (i : Int) = some true := by
  induction d with
  | zero =>
    intro k i hd hk
    obtain ⟨k, rfl⟩ : ∃ m, k = m + 1 := ⟨k - 1, by omega⟩
    simp only [laws_eqCam.l0]; rw [if_neg (by omega)]
  | succ d ih =>
    intro k i hd hk
    obtain ⟨k, rfl⟩ : ∃ m, k = m + 1 := ⟨k - 1, by omega⟩
    simp only [laws_eqCam.l0]; rw [if_pos (by omega), if_pos (by omega), if_pos (by omega), if_pos trivial]
    rw [b_wrap _ (by omega) (by omega), show ((i : Int) + 1) = ((i + 1 : Nat) : Int) by omega]
    exact ih k (i + 1) (by omega) (by omega)

theorem laws_eqCam_t (l : List Int) (hl : l.length ≤ 1048576) (k : Nat) (hk : l.length < k) : laws_eqCam.f k l l = some true := by
  unfold laws_eqCam.f
  rw [if_pos rfl]
  exact laws_eqCam_l l hl l.length k 0 (by omega) hk
theorem same_l (a b : List Int) (ha : a.length ≤ 1048576) (hab : a.length = b.length) (d : Nat) : ∀ (i : Nat), a.length - i = d →
    ∃ r, ∀ k, d < k → spec_l01Same.l0 k a b (i : Int) = some r ∧ impl_Cam_int16.l0 k a b (a.length : Int) (i : Int) = some r := by
  induction d with
  | zero =>
    intro i hd
    refine ⟨true, fun k hk => ?_⟩
    obtain ⟨k, rfl⟩ : ∃ m, k = m + 1 := ⟨k - 1, by omega⟩
    exact ⟨by simp only [spec_l01Same.l0]; rw [if_neg (by omega)], by simp only [impl_Cam_int16.l0]; rw [if_neg (by omega)]⟩
  | succ d ih =>
    intro i hd
    have p1 : (i : Int) < (a.length : Int) := by omega
    have p2 : 0 ≤ (i : Int) := by omega
    have p3 : (i : Int) < (b.length : Int) := by omega
    have w : wrap64 ((i : Int) + 1) = ((i + 1 : Nat) : Int) := by rw [b_wrap _ (by omega) (by omega)]; omega
    by_cases h : rd a (i : Int) = rd b (i : Int)
    · obtain ⟨r, hr⟩ := ih (i + 1) (by omega)
      refine ⟨r, fun k hk => ?_⟩
      obtain ⟨k, rfl⟩ : ∃ m, k = m + 1 := ⟨k - 1, by omega⟩
      simp only [spec_l01Same.l0, impl_Cam_int16.l0, if_pos p1, if_pos p2, if_pos p3, if_pos h, w]
      exact hr k (by omega)
    · refine ⟨false, fun k hk => ?_⟩
      obtain ⟨k, rfl⟩ : ∃ m, k = m + 1 := ⟨k - 1, by omega⟩
      simp only [spec_l01Same.l0, impl_Cam_int16.l0, if_pos p1, if_pos p2, if_pos p3, if_neg h]
      exact ⟨trivial, trivial⟩
theorem same_t (a b : List Int) (ha : a.length ≤ 1048576) : ∃ r, ∀ k, 1048576 < k → spec_l01Same.f k a b = some r ∧ impl_Cam_int16.f k a b = some r := by
  by_cases h : (a.length : Int) = (b.length : Int)
  · obtain ⟨r, hr⟩ := same_l a b ha (by omega) a.length 0 (by omega)
    refine ⟨r, fun k hk => ?_⟩
    unfold spec_l01Same.f impl_Cam_int16.f
    rw [if_pos h, if_pos h]; exact hr k (by omega)
  · refine ⟨false, fun k hk => ?_⟩
    unfold spec_l01Same.f impl_Cam_int16.f
    rw [if_neg h, if_neg h]; exact ⟨rfl, rfl⟩
/-- A shaft as the program has it. -/
def cv (x : S116) : S118 := ⟨x.f0, x.f1, x.f2, x.f3⟩
theorem rdA (l : List S116) (i : Nat) : rd_T116 l (i : Int) = l.getD i z116 := by unfold rd_T116; rw [Int.toNat_natCast]
theorem rdB (l : List S118) (i : Nat) : rd_T118 l (i : Int) = l.getD i z118 := by unfold rd_T118; rw [Int.toNat_natCast]
theorem getA (l : List S116) (i : Nat) (h : i < l.length) : l.getD i z116 = l[i] := by rw [List.getD_eq_getElem?_getD, List.getElem?_eq_getElem h]; rfl

theorem szS_l (l : List S116) (hl : l.length ≤ 140737488351232) (hs : ∀ x ∈ l, x.f3.length ≤ 9223372036854775807) (d : Nat) : ∀ (i : Nat) (v : Int), l.length - i = d → 0 ≤ v → v ≤ 1048576 →
    (∀ k, d < k → ∃ q, laws_szShaftS.l0 k l v (i : Int) = some q ∧ q < 0) ∨ (∃ u, (0 ≤ u ∧ u ≤ v) ∧ (∀ k, d < k → laws_szShaftS.l0 k l v (i : Int) = some u) ∧ ∀ j, i ≤ j → j < l.length → (l.getD j z116).f3.length ≤ 1048576) := by
  induction d with
  | zero =>
    intro i v hd h0 h1
    refine .inr ⟨v, ⟨h0, Int.le_refl _⟩, fun k hk => ?_, fun j h1 h2 => by omega⟩
    obtain ⟨k, rfl⟩ : ∃ m, k = m + 1 := ⟨k - 1, by omega⟩
    simp only [laws_szShaftS.l0]; rw [if_neg (by omega)]
  | succ d ih =>
    intro i v hd h0 h1
    have hi : i < l.length := by omega
    have hx := hs _ (List.getElem_mem hi)
    have w : wrap64 (v - ((l.getD i z116).f3.length : Int)) = v - ((l.getD i z116).f3.length : Int) := by rw [getA l i hi]; exact b_wrap _ (by omega) (by omega)
    have w1 : wrap64 ((i : Int) + 1) = ((i + 1 : Nat) : Int) := by rw [b_wrap _ (by omega) (by omega)]; omega
    by_cases c : v - ((l.getD i z116).f3.length : Int) < 0
    · refine .inl (fun k hk => ⟨-1, ?_, by omega⟩)
      obtain ⟨k, rfl⟩ : ∃ m, k = m + 1 := ⟨k - 1, by omega⟩
      simp only [laws_szShaftS.l0, laws_szShaft.f, laws_szCam.f, rdA, w]
      rw [if_pos (by omega), if_pos (by omega), if_pos c]; simp
    · have step : ∀ k, laws_szShaftS.l0 (k + 1) l v (i : Int) = laws_szShaftS.l0 k l (v - ((l.getD i z116).f3.length : Int)) ((i + 1 : Nat) : Int) := by
        intro k
        simp only [laws_szShaftS.l0, laws_szShaft.f, laws_szCam.f, rdA, w, w1]
        rw [if_pos (by omega), if_pos (by omega), if_neg c]
        simp only [Option.bind_some, if_neg c]
      rcases ih (i + 1) (v - ((l.getD i z116).f3.length : Int)) (by omega) (by omega) (by omega) with h | ⟨u, hu, h, hall⟩
      · refine .inl (fun k hk => ?_)
        obtain ⟨k, rfl⟩ : ∃ m, k = m + 1 := ⟨k - 1, by omega⟩
        rw [step]; exact h k (by omega)
      · refine .inr ⟨u, ⟨hu.1, by omega⟩, fun k hk => ?_, fun j j1 j2 => ?_⟩
        · obtain ⟨k, rfl⟩ : ∃ m, k = m + 1 := ⟨k - 1, by omega⟩
          rw [step]; exact h k (by omega)
        · by_cases e : j = i
          · subst e; omega
          · exact hall j (by omega) j2
theorem szS_t (l : List S116) (v : Int) (hv : 0 ≤ v ∧ v ≤ 1048576) (hl : l.length ≤ 140737488351232) (hF : F84 l) :
    (∀ k, l.length < k → ∃ q, laws_szShaftS.f k l v = some q ∧ q < 0) ∨ (∃ u, (0 ≤ u ∧ u ≤ v) ∧ (∀ k, l.length < k → laws_szShaftS.f k l v = some u) ∧ l.length ≤ 1048576 ∧ ∀ j, j < l.length → (l.getD j z116).f3.length ≤ 1048576) := by
  have w : wrap64 (v - (l.length : Int)) = v - (l.length : Int) := b_wrap _ (by omega) (by omega)
  have hs : ∀ x ∈ l, x.f3.length ≤ 9223372036854775807 := fun x hx => by have := (hF.2 x hx).2.2.2.1; unfold maxLen at this; omega
  unfold laws_szShaftS.f
  rw [w]
  by_cases c : v - (l.length : Int) < 0
  · refine .inl (fun k hk => ⟨-1, by rw [if_pos c], by omega⟩)
  · rcases szS_l l hl hs l.length 0 (v - (l.length : Int)) (by omega) (by omega) (by omega) with h | ⟨u, hu, h, hall⟩
    · refine .inl (fun k hk => ?_)
      rw [if_neg c]; exact h k hk
    · refine .inr ⟨u, ⟨hu.1, by omega⟩, fun k hk => ?_, by omega, fun j hj => hall j (by omega) hj⟩
      rw [if_neg c]; exact h k hk

theorem toS_l (l : List S116) (hl : l.length ≤ 1048576) (hs : ∀ j, j < l.length → (l.getD j z116).f3.length ≤ 1048576) (d : Nat) : ∀ (k : Nat) (x : List S118) (i : Nat), l.length - i = d → d + 1048577 < k → x.length = l.length → x.take i = (l.map cv).take i → laws_toShaftS.l0 k l x (i : Int) = some (l.map cv) := by
  induction d with
  | zero =>
    intro k x i hd hk hx ht
    obtain ⟨k, rfl⟩ : ∃ m, k = m + 1 := ⟨k - 1, by omega⟩
    simp only [laws_toShaftS.l0]; rw [if_neg (by omega)]
    rw [List.take_of_length_le (by omega), List.take_of_length_le (by simp; omega)] at ht
    rw [ht]
  | succ d ih =>
    intro k x i hd hk hx ht
    obtain ⟨k, rfl⟩ : ∃ m, k = m + 1 := ⟨k - 1, by omega⟩
    have hi : i < l.length := by omega
    have w1 : wrap64 ((i : Int) + 1) = ((i + 1 : Nat) : Int) := by rw [b_wrap _ (by omega) (by omega)]; omega
    have e := laws_toCam_t (l.getD i z116).f3 (hs i hi) k (by have := hs i hi; omega)
    simp only [laws_toShaftS.l0, laws_toShaft.f, rdA, w1, e, Option.bind_some]
    rw [if_pos (by omega), if_pos (by omega), if_pos (by omega), Int.toNat_natCast]
    refine ih k _ (i + 1) (by omega) (by omega) (by rw [List.length_set]; exact hx) ?_
    have h' : i < (x.set i (⟨(l.getD i z116).f0, (l.getD i z116).f1, (l.getD i z116).f2, (l.getD i z116).f3⟩ : S118)).length := by rw [List.length_set]; omega
    rw [List.take_succ_eq_append_getElem h', List.getElem_set_self, List.take_set_of_le (Nat.le_refl i), ht, List.take_succ_eq_append_getElem (by simpa using hi), List.getElem_map, getA l i hi]; rfl
theorem toS_t (l : List S116) (hl : l.length ≤ 1048576) (hs : ∀ j, j < l.length → (l.getD j z116).f3.length ≤ 1048576) (k : Nat) (hk : l.length + 1048577 < k) : laws_toShaftS.f k l = some (l.map cv) := by
  unfold laws_toShaftS.f
  rw [if_pos (by omega), if_pos (by omega), Int.toNat_natCast]
  exact toS_l l hl hs l.length k _ 0 (by omega) hk (by simp) rfl
theorem eqS_l (l : List S118) (hl : l.length ≤ 1048576) (hs : ∀ j, j < l.length → (l.getD j z118).f3.length ≤ 1048576) (d : Nat) : ∀ (k i : Nat), l.length - i = d → d + 1048577 < k → laws_eqShaftS.l0 k l l (i : Int) = some true := by
  induction d with
  | zero =>
    intro k i hd hk
    obtain ⟨k, rfl⟩ : ∃ m, k = m + 1 := ⟨k - 1, by omega⟩
    simp only [laws_eqShaftS.l0]; rw [if_neg (by omega)]
  | succ d ih =>
    intro k i hd hk
    obtain ⟨k, rfl⟩ : ∃ m, k = m + 1 := ⟨k - 1, by omega⟩
    have hi : i < l.length := by omega
    have w1 : wrap64 ((i : Int) + 1) = ((i + 1 : Nat) : Int) := by rw [b_wrap _ (by omega) (by omega)]; omega
    have e := laws_eqCam_t (l.getD i z118).f3 (hs i hi) k (by have := hs i hi; omega)
    simp only [laws_eqShaftS.l0, laws_eqShaft.f, rdB, w1, e, Option.bind_some, if_true]
    rw [if_pos (by omega), if_pos (by omega), if_pos (by omega)]
    exact ih k (i + 1) (by omega) (by omega)
theorem eqS_t (l : List S118) (hl : l.length ≤ 1048576) (hs : ∀ j, j < l.length → (l.getD j z118).f3.length ≤ 1048576) (k : Nat) (hk : l.length + 1048577 < k) : laws_eqShaftS.f k l l = some true := by
  unfold laws_eqShaftS.f
  rw [if_pos rfl, show (0 : Int) = ((0 : Nat) : Int) from rfl]
  exact eqS_l l hl hs l.length k 0 (by omega) hk

theorem cmp_l (a b : List S118) (ha : a.length ≤ 1048576) (hs : ∀ j, j < a.length → (a.getD j z118).f3.length ≤ 1048576) (hab : a.length = b.length) (d : Nat) : ∀ (i : Nat), a.length - i = d →
    ∃ r, ∀ k, d + 1048577 < k → spec_l04Same.l0 k a b (i : Int) = some r ∧ impl_Shaft_c90.l0 k b a (a.length : Int) (i : Int) = some r := by
  induction d with
  | zero =>
    intro i hd
    refine ⟨true, fun k hk => ?_⟩
    obtain ⟨k, rfl⟩ : ∃ m, k = m + 1 := ⟨k - 1, by omega⟩
    exact ⟨by simp only [spec_l04Same.l0]; rw [if_neg (by omega)], by simp only [impl_Shaft_c90.l0]; rw [if_neg (by omega)]⟩
  | succ d ih =>
    intro i hd
    have p1 : (i : Int) < (a.length : Int) := by omega
    have p2 : 0 ≤ (i : Int) := by omega
    have p3 : (i : Int) < (b.length : Int) := by omega
    have w : wrap64 ((i : Int) + 1) = ((i + 1 : Nat) : Int) := by rw [b_wrap _ (by omega) (by omega)]; omega
    obtain ⟨q, hq⟩ := same_t (a.getD i z118).f3 (b.getD i z118).f3 (hs i (by omega))
    have fin : ∀ P : Prop, P = P := fun _ => rfl
    by_cases c0 : (a.getD i z118).f0 = (b.getD i z118).f0
    · by_cases c1 : (a.getD i z118).f1 = (b.getD i z118).f1
      · by_cases c2 : (a.getD i z118).f2 = (b.getD i z118).f2
        · cases q with
          | true =>
            obtain ⟨r, hr⟩ := ih (i + 1) (by omega)
            refine ⟨r, fun k hk => ?_⟩
            obtain ⟨k, rfl⟩ : ∃ m, k = m + 1 := ⟨k - 1, by omega⟩
            obtain ⟨s, m⟩ := hq k (by omega)
            simp only [spec_l04Same.l0, impl_Shaft_c90.l0, impl_SameShafts_1.f, rdB, if_pos p1, if_pos p2, if_pos p3, if_pos c0, if_pos c1, if_pos c2, s, m, Option.bind_some, if_true, w]
            exact hr k (by omega)
          | false =>
            refine ⟨false, fun k hk => ?_⟩
            obtain ⟨k, rfl⟩ : ∃ m, k = m + 1 := ⟨k - 1, by omega⟩
            obtain ⟨s, m⟩ := hq k (by omega)
            simp only [spec_l04Same.l0, impl_Shaft_c90.l0, impl_SameShafts_1.f, rdB, if_pos p1, if_pos p2, if_pos p3, if_pos c0, if_pos c1, if_pos c2, s, m, Option.bind_some, Bool.false_eq_true, if_false, w]
            exact ⟨trivial, trivial⟩
        · refine ⟨false, fun k hk => ?_⟩
          obtain ⟨k, rfl⟩ : ∃ m, k = m + 1 := ⟨k - 1, by omega⟩
          simp only [spec_l04Same.l0, impl_Shaft_c90.l0, impl_SameShafts_1.f, rdB, if_pos p1, if_pos p2, if_pos p3, if_pos c0, if_pos c1, if_neg c2, Option.bind_some, Bool.false_eq_true, if_false]
          exact ⟨trivial, trivial⟩
      · refine ⟨false, fun k hk => ?_⟩
        obtain ⟨k, rfl⟩ : ∃ m, k = m + 1 := ⟨k - 1, by omega⟩
        simp only [spec_l04Same.l0, impl_Shaft_c90.l0, impl_SameShafts_1.f, rdB, if_pos p1, if_pos p2, if_pos p3, if_pos c0, if_neg c1, Option.bind_some, Bool.false_eq_true, if_false]
        exact ⟨trivial, trivial⟩
    · refine ⟨false, fun k hk => ?_⟩
      obtain ⟨k, rfl⟩ : ∃ m, k = m + 1 := ⟨k - 1, by omega⟩
      simp only [spec_l04Same.l0, impl_Shaft_c90.l0, impl_SameShafts_1.f, rdB, if_pos p1, if_pos p2, if_pos p3, if_neg c0, Option.bind_some, Bool.false_eq_true, if_false]
      exact ⟨trivial, trivial⟩
theorem cmp_t (a b : List S118) (ha : a.length ≤ 1048576) (hs : ∀ j, j < a.length → (a.getD j z118).f3.length ≤ 1048576) : ∃ r, ∀ k, a.length + 1048577 < k → spec_SameShafts.f k a b = some r ∧ impl_SameShafts.f k a b = some r := by
  by_cases h : (a.length : Int) = (b.length : Int)
  · obtain ⟨r, hr⟩ := cmp_l a b ha hs (by omega) a.length 0 (by omega)
    refine ⟨r, fun k hk => ?_⟩
    obtain ⟨s, m⟩ := hr k hk
    unfold spec_SameShafts.f impl_SameShafts.f spec_l04Same.f impl_Shaft_c90.f
    rw [if_pos h, if_pos h, show (0 : Int) = ((0 : Nat) : Int) from rfl, s, m]; exact ⟨rfl, rfl⟩
  · refine ⟨false, fun k hk => ?_⟩
    unfold spec_SameShafts.f impl_SameShafts.f spec_l04Same.f impl_Shaft_c90.f
    rw [if_neg h, if_neg h]; exact ⟨rfl, rfl⟩

theorem cvlen (l : List S116) (hs : ∀ j, j < l.length → (l.getD j z116).f3.length ≤ 1048576) : ∀ j, j < (l.map cv).length → ((l.map cv).getD j z118).f3.length ≤ 1048576 := by
  intro j hj
  have hj' : j < l.length := by simpa using hj
  have := hs j hj'
  rw [getA l j hj'] at this
  rw [List.getD_eq_getElem?_getD, List.getElem?_map, List.getElem?_eq_getElem hj']; exact this

theorem FnExactSameShafts (l0 : List S116) (l1 : List S116) (hF0 : F84 l0) (y0 : l0.length * by_116 ≤ 140737488351232) (hF1 : F84 l1) (y1 : l1.length * by_116 ≤ 140737488351232) : ∃ k, laws_FnExactSameShafts.f k l0 l1 = some true := by
  have y0' : l0.length * 32 ≤ 140737488351232 := y0
  have y1' : l1.length * 32 ≤ 140737488351232 := y1
  rcases szS_t l0 1048576 (by omega) (by omega) hF0 with h | ⟨u, hu, h, hl0, hs0⟩
  · obtain ⟨q, hq, hq0⟩ := h (l0.length + 1) (by omega)
    refine ⟨l0.length + 1, ?_⟩
    unfold laws_FnExactSameShafts.f
    rw [hq]; simp only [Option.bind_some]; rw [if_pos hq0]
  · rcases szS_t l1 u (by omega) (by omega) hF1 with h' | ⟨u', hu', h', hl1, hs1⟩
    · obtain ⟨q, hq, hq0⟩ := h' (l0.length + l1.length + 1) (by omega)
      refine ⟨l0.length + l1.length + 1, ?_⟩
      unfold laws_FnExactSameShafts.f
      rw [h _ (by omega)]; simp only [Option.bind_some]; rw [if_neg (by omega), hq]; simp only [Option.bind_some]; rw [if_pos hq0]
    · obtain ⟨r, hr⟩ := cmp_t (l0.map cv) (l1.map cv) (by simpa using hl0) (cvlen l0 hs0)
      obtain ⟨k, hk⟩ : ∃ k, k = l0.length + l1.length + 1048600 := ⟨_, rfl⟩
      refine ⟨k, ?_⟩
      obtain ⟨s, m⟩ := hr k (by simp; omega)
      have e1 := toS_t l0 hl0 hs0 k (by omega)
      have e2 := toS_t l1 hl1 hs1 k (by omega)
      have q1 := eqS_t (l0.map cv) (by simpa using hl0) (cvlen l0 hs0) k (by simp; omega)
      have q2 := eqS_t (l1.map cv) (by simpa using hl1) (cvlen l1 hs1) k (by simp; omega)
      unfold laws_FnExactSameShafts.f
      rw [h k (by omega)]; simp only [Option.bind_some]; rw [if_neg (by omega), h' k (by omega)]; simp only [Option.bind_some]; rw [if_neg (by omega)]
      simp only [e1, e2, s, m, Option.bind_some, bne_self_eq_false, Bool.false_eq_true, if_false, q1, q2, if_true]

end Go.Proofs.Ytcclfndbglgbiaa.Pure
