/- The pure statement of the law FnExactReadCuts is proved: for every input that the law speaks of, the law's function answers true. No conditions beyond the statement's own. -/
import Derived.Test.YtcfjdpegllnhfaaDoorFFnExactReadCutsx
import Derived.Lib.ItoaMem
namespace Go.Proofs.YtcfjdpegllnhfaaDoor.Pure
open Go.RowKit Go.Proofs.YtcfjdpegllnhfaaDoor.FFnExactReadCuts Go.Proofs.YtcfjdpegllnhfaaDoorW.PrintWords Go.Proofs.YtcfjdpegllnhfaaDoorW.PrintLast
set_option linter.unusedVariables false

theorem b_wrap (x : Int) (h : -9223372036854775808 ≤ x) (h' : x ≤ 9223372036854775807) : wrap64 x = x := by
  unfold wrap64; omega

theorem b_rd (l : List Int) (i : Nat) (h : i < l.length) : rd l (i : Int) = l[i] := by
  unfold rd; rw [List.getD_eq_getElem?_getD, Int.toNat_natCast, List.getElem?_eq_getElem h]; rfl

theorem b_take (l : List Int) (i : Nat) (h : i < l.length) : l.take (i + 1) = l.take i ++ [l[i]] := by
  rw [List.take_succ_eq_append_getElem h]

theorem b_set (x : List Int) (i : Nat) (v : Int) (h : i < x.length) : (x.set i v).take (i + 1) = x.take i ++ [v] := by
  have h' : i < (x.set i v).length := by rw [List.length_set]; exact h
  rw [List.take_succ_eq_append_getElem h', List.getElem_set_self, List.take_set_of_le (Nat.le_refl i)]
theorem impl_inRange_t (a b c : Int) : impl_inRange.f a b c = some (decide (b ≤ a ∧ a ≤ c)) := by
  unfold impl_inRange.f
  by_cases h : b ≤ a
  · rw [if_pos h]; simp [h]
  · rw [if_neg h]; simp [h]
set_option linter.unusedSectionVars false
theorem sz_l (l : List UInt8) : (⟨l.toArray⟩ : ByteArray).size = l.length := by simp [ByteArray.size]
theorem app_l (l : List UInt8) (d : UInt8) : (⟨l.toArray⟩ : ByteArray) ++ (⟨#[d]⟩ : ByteArray) = ⟨(l ++ [d]).toArray⟩ := by
  apply ByteArray.ext
  simp [ByteArray.data_append]
theorem dec_len : ∀ (k n : Nat), n < 10 ^ (k + 1) → (Lib.decDigits n).length ≤ k + 1
  | 0, n, h => by rw [Lib.decDigits, dif_pos (by simpa using h)]; simp
  | k + 1, n, h => by
    rw [Lib.decDigits]
    split
    · simp
    · rw [List.length_append]
      have := dec_len k (n / 10) (by rw [Nat.pow_succ] at h; omega)
      simp only [List.length_singleton]
      omega
theorem itoa_len (k : Nat) (a : Int) (h0 : 0 ≤ a) (h1 : a < 10 ^ (k + 1)) : (Lib.itoa a).length ≤ k + 1 := by
  obtain ⟨n, rfl⟩ := Int.eq_ofNat_of_zero_le h0
  rw [Lib.itoa_nonneg]
  exact dec_len k n (by exact_mod_cast h1)
/-- A text parted at each such byte. -/
def sp (c : UInt8) : List UInt8 → List (List UInt8)
  | [] => [[]]
  | b :: l => if b = c then [] :: sp c l else match sp c l with | [] => [[b]] | x :: xs => (b :: x) :: xs
theorem sp_ne (c : UInt8) : ∀ l, ∃ x xs, sp c l = x :: xs
  | [] => ⟨_, _, rfl⟩
  | b :: l => by
    unfold sp
    by_cases h : b = c
    · rw [if_pos h]; exact ⟨_, _, rfl⟩
    · rw [if_neg h]
      obtain ⟨x, xs, e⟩ := sp_ne c l
      rw [e]; exact ⟨_, _, rfl⟩
theorem sp_eq (c : UInt8) (l : List UInt8) : sp c (c :: l) = [] :: sp c l := by rw [sp, if_pos rfl]
theorem sp_cons (c b : UInt8) (l : List UInt8) (h : b ≠ c) {x : List UInt8} {xs : List (List UInt8)} (e : sp c l = x :: xs) : sp c (b :: l) = (b :: x) :: xs := by rw [sp, if_neg h, e]
/-- The parts put together again. -/
def jn (c : UInt8) : List (List UInt8) → List UInt8
  | [] => []
  | [x] => x
  | x :: y :: xs => x ++ c :: jn c (y :: xs)
theorem jn_cons (c b : UInt8) (x : List UInt8) (xs : List (List UInt8)) : jn c ((b :: x) :: xs) = b :: jn c (x :: xs) := by
  cases xs <;> simp [jn]
theorem sp_join (c : UInt8) : ∀ l, jn c (sp c l) = l
  | [] => rfl
  | b :: l => by
    obtain ⟨x, xs, e⟩ := sp_ne c l
    have ih := sp_join c l
    by_cases h : b = c
    · subst h
      rw [sp_eq, e, jn, List.nil_append, ← e, ih]
    · rw [sp_cons c b l h e, jn_cons, ← e, ih]
theorem sp_app (c : UInt8) : ∀ (a : List UInt8), c ∉ a → ∀ r, sp c (a ++ c :: r) = a :: sp c r
  | [], _, r => by rw [List.nil_append, sp_eq]
  | b :: a, h, r => by
    have h1 : b ≠ c := fun e => h (by simp [e])
    have h2 : c ∉ a := fun e => h (by simp [e])
    rw [List.cons_append, sp_cons c b _ h1 (sp_app c a h2 r)]
theorem sp_one (c : UInt8) : ∀ (a : List UInt8), c ∉ a → sp c a = [a]
  | [], _ => rfl
  | b :: a, h => by
    have h1 : b ≠ c := fun e => h (by simp [e])
    have h2 : c ∉ a := fun e => h (by simp [e])
    rw [sp_cons c b _ h1 (sp_one c a h2)]
theorem sp_part (c : UInt8) : ∀ (l : List UInt8) (x : List UInt8), x ∈ sp c l → c ∉ x
  | [], x, h => by
    have : x = [] := by simpa [sp] using h
    rw [this]; simp
  | b :: l, x, h => by
    obtain ⟨y, ys, e⟩ := sp_ne c l
    have ih := sp_part c l
    by_cases hb : b = c
    · subst hb
      rw [sp_eq] at h
      rcases List.mem_cons.1 h with rfl | h
      · simp
      · exact ih x h
    · rw [sp_cons c b l hb e] at h
      rw [e] at ih
      rcases List.mem_cons.1 h with rfl | h
      · intro q
        rcases List.mem_cons.1 q with q | q
        · exact hb q.symm
        · exact ih y (by simp) q
      · exact ih x (by simp [h])
/-- The library's split at one byte. -/
theorem splitK_sp (c : UInt8) : ∀ (n : Nat) (s : List UInt8), s.length ≤ n → ∀ fuel, s.length < fuel → Lib.splitK [c] 0 (Lib.countFrom [c] fuel s) s = sp c s
  | n, s, hn, fuel, hf => by
    obtain ⟨fuel, rfl⟩ : ∃ m, fuel = m + 1 := ⟨fuel - 1, by omega⟩
    have e1 := Lib.index_one s c
    by_cases h : Lib.index s [c] = -1
    · have h' : Lib.indexByte s c = -1 := by rw [← e1]; exact h
      have hno : c ∉ s := fun hc => by
        obtain ⟨k, hk⟩ := List.getElem?_of_mem hc
        exact Lib.indexByte_none h' k hk
      rw [Lib.countFrom, if_pos (beq_iff_eq.2 h), Lib.splitK, sp_one c s hno]
    · obtain ⟨i, hi⟩ : ∃ i : Nat, Lib.index s [c] = i := ⟨(Lib.index s [c]).toNat, by have := Lib.index_ge s [c]; omega⟩
      have h' : Lib.indexByte s c = (i : Int) := by rw [← e1]; exact hi
      obtain ⟨g1, g2⟩ := Lib.indexByte_some h'
      have hlt : i < s.length := (List.getElem?_eq_some_iff.1 g1).1
      have hb : ¬ (Lib.index s [c] == -1) = true := fun e => h (beq_iff_eq.1 e)
      have ht : (Lib.index s [c]).toNat = i := by omega
      rw [Lib.countFrom, if_neg hb, ht, Nat.add_comm 1, Lib.splitK, if_neg hb, ht, Nat.add_zero, List.length_singleton]
      have hd : (s.drop (i + 1)).length < fuel := by rw [List.length_drop]; omega
      have hd2 : (s.drop (i + 1)).length ≤ n - 1 := by rw [List.length_drop]; omega
      have hpos : 1 ≤ n := by omega
      match n, hpos with
      | n + 1, _ =>
        rw [splitK_sp c n (s.drop (i + 1)) (by omega) fuel hd]
        have hs : s = s.take i ++ c :: s.drop (i + 1) := by
          have e2 : s[i] = c := (List.getElem?_eq_some_iff.1 g1).2
          conv => lhs; rw [← List.take_append_drop i s, List.drop_eq_getElem_cons hlt, e2]
        have hno : c ∉ s.take i := fun hc => by
          obtain ⟨k, hk⟩ := List.getElem?_of_mem hc
          have hk1 := (List.getElem?_eq_some_iff.1 hk).1
          rw [List.length_take] at hk1
          rw [List.getElem?_take_of_lt (by omega)] at hk
          exact g2 k (by omega) hk
        conv => rhs; rw [hs]
        rw [sp_app c _ hno]
theorem splitB_sp (s : ByteArray) (c : UInt8) : (Lib.splitB ⟨#[c]⟩ 0 (Lib.countB s ⟨#[c]⟩) s).map (·.data.toList) = sp c s.data.toList := by
  rw [Lib.splitB_data]
  exact splitK_sp c s.data.toList.length s.data.toList (Nat.le_refl _) _ (by omega)
theorem sz_d (s : ByteArray) : s.data.toList.length = s.size := Array.length_toList
theorem bt_l (s : ByteArray) (i : Nat) (h : i < s.data.toList.length) : bt s (i : Int) = ((s.data.toList[i]).toNat : Int) := by
  have h' : i < s.size := by rw [← sz_d]; exact h
  unfold bt
  rw [Int.toNat_natCast, dif_pos h']
  rfl
/-- The model's split. -/
theorem l01Split_l (a : ByteArray) (ha : a.size ≤ 1048576) (c : UInt8) (d : Nat) : ∀ (k b i : Nat) (acc : List ByteArray), a.size - i = d → d < k → b ≤ i → i ≤ a.size → acc.length ≤ i →
    ∃ r, spec_l01Split.l0 k a (c.toNat : Int) acc (b : Int) (i : Int) = some r ∧ ∀ x xs, sp c (a.data.toList.drop i) = x :: xs → r.map (·.data.toList) = acc.map (·.data.toList) ++ (((a.data.toList.drop b).take (i - b) ++ x) :: xs) := by
  induction d with
  | zero =>
    intro k b i acc hd hk hb hi hacc
    obtain ⟨k, rfl⟩ : ∃ m, k = m + 1 := ⟨k - 1, by omega⟩
    simp only [spec_l01Split.l0]
    rw [if_neg (by omega), if_pos (by omega), if_pos (by omega), if_pos (by omega)]
    refine ⟨_, rfl, fun x xs h => ?_⟩
    rw [List.drop_of_length_le (by rw [sz_d]; omega)] at h
    obtain ⟨rfl, rfl⟩ : x = [] ∧ xs = [] := by simpa [sp, eq_comm] using h
    rw [List.map_append, List.map_singleton, Lib.extract_data, Int.toNat_natCast, List.append_nil]
    have e : i = a.size := by omega
    rw [e]
  | succ d ih =>
    intro k b i acc hd hk hb hi hacc
    obtain ⟨k, rfl⟩ : ∃ m, k = m + 1 := ⟨k - 1, by omega⟩
    have hlt : i < a.data.toList.length := by rw [sz_d]; omega
    have w : wrap64 ((i : Int) + 1) = ((i + 1 : Nat) : Int) := by rw [b_wrap _ (by omega) (by omega)]; omega
    have p1 : (i : Int) < (a.size : Int) := by omega
    have p2 : 0 ≤ (i : Int) := by omega
    have hdr : a.data.toList.drop i = a.data.toList[i] :: a.data.toList.drop (i + 1) := List.drop_eq_getElem_cons hlt
    simp only [spec_l01Split.l0, w]
    rw [if_pos p1, if_pos p2, bt_l a i hlt]
    by_cases h : a.data.toList[i] = c
    · rw [if_pos (by rw [h]), if_pos (by omega), if_pos (by omega), if_pos (by omega), if_pos (by omega)]
      obtain ⟨r, h1, h2⟩ := ih k (i + 1) (i + 1) (acc ++ [a.extract (b : Int).toNat (i : Int).toNat]) (by omega) (by omega) (by omega) (by omega) (by rw [List.length_append, List.length_singleton]; omega)
      refine ⟨r, h1, fun x xs hs => ?_⟩
      rw [hdr, h, sp_eq] at hs
      obtain ⟨y, ys, e⟩ := sp_ne c (a.data.toList.drop (i + 1))
      obtain ⟨rfl, rfl⟩ := List.cons.inj hs
      rw [h2 y ys e, e, List.map_append, List.map_singleton, Lib.extract_data, Int.toNat_natCast, Int.toNat_natCast, Nat.sub_self, List.take_zero, List.nil_append, List.append_nil, List.append_assoc]
      rfl
    · have hne : ¬ ((a.data.toList[i].toNat : Int) = (c.toNat : Int)) := fun e => h (UInt8.toNat_inj.1 (by omega))
      rw [if_neg hne]
      obtain ⟨r, h1, h2⟩ := ih k b (i + 1) acc (by omega) (by omega) (by omega) (by omega) (by omega)
      refine ⟨r, h1, fun x xs hs => ?_⟩
      obtain ⟨y, ys, e⟩ := sp_ne c (a.data.toList.drop (i + 1))
      rw [hdr, sp_cons c _ _ h e] at hs
      obtain ⟨rfl, rfl⟩ := List.cons.inj hs
      rw [h2 y ys e]
      have e3 : i + 1 - b = (i - b) + 1 := by omega
      have hlt2 : i - b < (a.data.toList.drop b).length := by rw [List.length_drop]; omega
      rw [e3, List.take_succ_eq_append_getElem hlt2, List.getElem_drop, List.append_assoc]
      congr 3
      simp only [show b + (i - b) = i by omega]
      rfl
theorem l01Split_t (a : ByteArray) (ha : a.size ≤ 1048576) (c : UInt8) (k : Nat) (hk : a.size < k) : ∃ r, spec_l01Split.f k a (c.toNat : Int) = some r ∧ r.map (·.data.toList) = sp c a.data.toList := by
  obtain ⟨r, h1, h2⟩ := l01Split_l a ha c a.size k 0 0 [] (by omega) hk (Nat.le_refl _) (by omega) (by simp)
  obtain ⟨x, xs, e⟩ := sp_ne c a.data.toList
  refine ⟨r, h1, ?_⟩
  rw [h2 x xs (by rw [List.drop_zero]; exact e), e]
  simp
def dig (b : UInt8) : Prop := 48 ≤ b.toNat ∧ b.toNat ≤ 57
/-- What digits spell, behind acc. -/
def spell (acc : Nat) (l : List UInt8) : Nat := l.foldl (fun a b => 10 * a + (b.toNat - 48)) acc
theorem spell_nil (acc : Nat) : spell acc [] = acc := rfl
theorem spell_cons (acc : Nat) (b : UInt8) (l : List UInt8) : spell acc (b :: l) = spell (10 * acc + (b.toNat - 48)) l := by unfold spell; rw [List.foldl_cons]
theorem val_snoc (l : List UInt8) (acc : Nat) (b : UInt8) : spell acc (l ++ [b]) = 10 * spell acc l + (b.toNat - 48) := by unfold spell; rw [List.foldl_append, List.foldl_cons, List.foldl_nil]
theorem val_ge : ∀ (l : List UInt8) (acc : Nat), acc ≤ spell acc l
  | [], _ => Nat.le_refl _
  | b :: l, acc => by rw [spell_cons]; have := val_ge l (10 * acc + (b.toNat - 48)); omega
/-- A number's text. -/
def good (l : List UInt8) : Prop := l ≠ [] ∧ l.length ≤ 9 ∧ (l.head? = some 48 → l.length = 1) ∧ ∀ b ∈ l, dig b
theorem dig_u (b : UInt8) (h : dig b) : UInt8.ofNat (48 + (b.toNat - 48)) = b := by
  unfold dig at h
  rw [show 48 + (b.toNat - 48) = b.toNat by omega]
  exact UInt8.ofNat_toNat
theorem dec_val : ∀ (n : Nat) (l : List UInt8), l.length = n → l ≠ [] → (∀ b ∈ l, dig b) → l.head? ≠ some 48 → Lib.decDigits (spell 0 l) = l ∧ 0 < spell 0 l
  | 0, l, hn, h0, _, _ => absurd (List.length_eq_zero_iff.1 hn) h0
  | n + 1, l, hn, h0, hd, hh => by
    obtain ⟨m, b, rfl⟩ : ∃ m b, l = m ++ [b] := ⟨l.dropLast, l.getLast h0, (List.dropLast_concat_getLast h0).symm⟩
    have hb : dig b := hd b (by simp)
    have hb' := hb
    unfold dig at hb'
    rw [val_snoc]
    by_cases hm : m = []
    · subst hm
      have hne : b ≠ 48 := fun e => hh (by simp [e])
      have hne' : b.toNat ≠ 48 := fun e => hne (UInt8.toNat_inj.1 e)
      have e : 10 * spell 0 [] + (b.toNat - 48) = b.toNat - 48 := by show 10 * 0 + _ = _; omega
      rw [e]
      refine ⟨?_, by omega⟩
      rw [Lib.decDigits, dif_pos (by omega), dig_u b hb]
      rfl
    · have ih := dec_val n m (by rw [List.length_append, List.length_singleton] at hn; omega) hm (fun x hx => hd x (by simp [hx])) (by
        intro q
        apply hh
        cases m with
        | nil => exact absurd rfl hm
        | cons x m => simpa using q)
      refine ⟨?_, by omega⟩
      rw [Lib.decDigits, dif_neg (by omega)]
      have e1 : (10 * spell 0 m + (b.toNat - 48)) / 10 = spell 0 m := by omega
      have e2 : (10 * spell 0 m + (b.toNat - 48)) % 10 = b.toNat - 48 := by omega
      rw [e1, e2, ih.1, dig_u b hb]
theorem good_dec (l : List UInt8) (h : good l) : Lib.decDigits (spell 0 l) = l := by
  obtain ⟨h0, h1, h2, h3⟩ := h
  by_cases hh : l.head? = some 48
  · have := h2 hh
    match l, this with
    | [b], _ =>
      obtain rfl : b = 48 := by simpa using hh
      show Lib.decDigits (10 * 0 + ((48 : UInt8).toNat - 48)) = _
      rw [Lib.decDigits]
      rfl
  · exact (dec_val l.length l rfl h0 h3 hh).1
theorem dd : ∀ n : Nat, (∀ b ∈ Lib.decDigits n, dig b) ∧ spell 0 (Lib.decDigits n) = n ∧ Lib.decDigits n ≠ [] ∧ (0 < n → (Lib.decDigits n).head? ≠ some 48)
  | n => by
    have one : ∀ m, m < 10 → (UInt8.ofNat (48 + m)).toNat = 48 + m := fun m hm => by rw [UInt8.toNat_ofNat']; omega
    by_cases h : n < 10
    · rw [Lib.decDigits, dif_pos h]
      refine ⟨fun b hb => ?_, ?_, by simp, fun h0 q => ?_⟩
      · obtain rfl : b = UInt8.ofNat (48 + n) := by simpa using hb
        unfold dig; rw [one n h]; omega
      · show 10 * 0 + ((UInt8.ofNat (48 + n)).toNat - 48) = n
        rw [one n h]; omega
      · have q' : UInt8.ofNat (48 + n) = 48 := Option.some.inj q
        have := congrArg UInt8.toNat q'
        rw [one n h] at this
        have e : (48 : UInt8).toNat = 48 := rfl
        omega
    · obtain ⟨h1, h2, h3, h4⟩ := dd (n / 10)
      rw [Lib.decDigits, dif_neg h]
      refine ⟨fun b hb => ?_, ?_, by simp, fun h0 q => ?_⟩
      · rcases List.mem_append.1 hb with hb | hb
        · exact h1 b hb
        · obtain rfl : b = UInt8.ofNat (48 + n % 10) := by simpa using hb
          unfold dig; rw [one _ (by omega)]; omega
      · rw [val_snoc, h2, one _ (by omega)]; omega
      · apply h4 (by omega)
        cases hq : Lib.decDigits (n / 10) with
        | nil => exact absurd hq h3
        | cons x m => rw [hq] at q; simpa using q
termination_by n => n
decreasing_by omega
theorem dec_good (n : Nat) (h : n < 1000000000) : good (Lib.decDigits n) := by
  obtain ⟨h1, h2, h3, h4⟩ := dd n
  refine ⟨h3, dec_len 8 n (by omega), fun q => ?_, h1⟩
  by_cases h0 : 0 < n
  · exact absurd q (h4 h0)
  · obtain rfl : n = 0 := by omega
    rw [Lib.decDigits, dif_pos (by decide)]; rfl
theorem good_val (l : List UInt8) (h : good l) : spell 0 l < 1000000000 := by
  have key : ∀ (l : List UInt8) (acc i : Nat), (∀ b ∈ l, dig b) → acc < 10 ^ i → spell acc l < 10 ^ (i + l.length) := by
    intro l
    induction l with
    | nil => intro acc i _ h; exact h
    | cons b l ih =>
      intro acc i hd h
      have hb := hd b (by simp)
      unfold dig at hb
      have e : i + (b :: l).length = (i + 1) + l.length := by rw [List.length_cons]; omega
      rw [spell_cons, e]
      exact ih _ (i + 1) (fun x hx => hd x (by simp [hx])) (by rw [Nat.pow_succ]; omega)
  have := key l 0 0 h.2.2.2 (by decide)
  have h9 : 10 ^ (0 + l.length) ≤ 10 ^ 9 := Nat.pow_le_pow_right (by decide) (by have := h.2.1; omega)
  have e9 : (10 : Nat) ^ 9 = 1000000000 := by decide
  omega
theorem parseM_dig (M : Nat) (hM : 1000000000000000000 ≤ M) : ∀ (l : List UInt8) (acc : Nat), (∀ b ∈ l, dig b) → spell acc l < 1000000000000000000 → Lib.parseUintM M acc l = .ok (spell acc l)
  | [], acc, _, _ => rfl
  | b :: l, acc, hd, hv => by
    have hb := hd b (by simp)
    unfold dig at hb
    rw [spell_cons] at hv ⊢
    have hg := val_ge l (10 * acc + (b.toNat - 48))
    have e : acc * 10 + (b.toNat - 48) = 10 * acc + (b.toNat - 48) := by omega
    rw [Lib.parseUintM, if_pos hb, if_neg (by omega), if_neg (by omega), e]
    exact parseM_dig M hM l _ (fun x hx => hd x (by simp [hx])) hv
theorem parseB_dec (B : Nat) (hB : 1000000000000000000 ≤ 2 ^ B - 1) (hB2 : 1000000000000000000 ≤ 2 ^ (B - 1)) (n : Nat) (h : n < 1000000000) : Lib.parseIntB B (Lib.decDigits n) = .ok (n : Int) := by
  obtain ⟨h1, h2, h3, _⟩ := dd n
  have hp := parseM_dig (2 ^ B - 1) hB (Lib.decDigits n) 0 h1 (by omega)
  rw [h2] at hp
  cases hq : Lib.decDigits n with
  | nil => exact absurd hq h3
  | cons c r =>
    rw [hq] at hp
    have hc := h1 c (by rw [hq]; simp)
    unfold dig at hc
    have e1 : ¬ (c.toNat = 43 ∨ c.toNat = 45) := by omega
    have e2 : ¬ (c.toNat = 45) := by omega
    unfold Lib.parseIntB
    simp only [if_neg e1]
    unfold Lib.parseUintB
    rw [if_neg (by simp), hp]
    simp only [e2, not_false_eq_true, true_and, false_and, if_false]
    rw [if_neg (by omega)]
theorem numRes_dec (n : Nat) (h : n < 1000000000) : numRes (Lib.decDigits n) = ((n : Int), true) := by
  unfold numRes
  rw [parseB_dec 64 (by decide) (by decide) n h]
  simp only [Lib.itoa_nonneg, decide_true]
theorem no32 (n : Nat) (c : UInt8) (hc : ¬ dig c) : c ∉ Lib.decDigits n := fun h => hc ((dd n).1 c h)
/-- The model's reading of a number. -/
theorem l01Number_l (a : ByteArray) (ha : a.size ≤ 9) (d : Nat) : ∀ (k i acc : Nat), a.size - i = d → d < k → i ≤ a.size → acc < 10 ^ i →
    ((∀ b ∈ a.data.toList.drop i, dig b) → spec_l01Number.l0 k a (acc : Int) (i : Int) = some (((spell acc (a.data.toList.drop i) : Nat) : Int), true)) ∧ ((¬ ∀ b ∈ a.data.toList.drop i, dig b) → spec_l01Number.l0 k a (acc : Int) (i : Int) = some (0, false)) := by
  induction d with
  | zero =>
    intro k i acc hd hk hi _
    obtain ⟨k, rfl⟩ : ∃ m, k = m + 1 := ⟨k - 1, by omega⟩
    have e : a.data.toList.drop i = [] := List.drop_of_length_le (by rw [sz_d]; omega)
    rw [e]
    simp only [spec_l01Number.l0]
    rw [if_neg (by omega)]
    exact ⟨fun _ => rfl, fun h => absurd (by simp) h⟩
  | succ d ih =>
    intro k i acc hd hk hi hacc
    obtain ⟨k, rfl⟩ : ∃ m, k = m + 1 := ⟨k - 1, by omega⟩
    have hlt : i < a.data.toList.length := by rw [sz_d]; omega
    have w : wrap64 ((i : Int) + 1) = ((i + 1 : Nat) : Int) := by rw [b_wrap _ (by omega) (by omega)]; omega
    have h10 : (10 : Nat) ^ i ≤ 10 ^ 8 := Nat.pow_le_pow_right (by decide) (by omega)
    have e8 : (10 : Nat) ^ 8 = 100000000 := by decide
    have hdr : a.data.toList.drop i = a.data.toList[i] :: a.data.toList.drop (i + 1) := List.drop_eq_getElem_cons hlt
    obtain ⟨b, hb⟩ : ∃ b, b = a.data.toList[i] := ⟨_, rfl⟩
    rw [hdr]
    simp only [spec_l01Number.l0, w]
    rw [if_pos (by omega), if_pos (by omega), bt_l a i hlt, ← hb]
    have hbb := b.toNat_lt
    by_cases h1 : b.toNat < 48
    · rw [if_pos (by omega)]
      refine ⟨fun h => ?_, fun _ => rfl⟩
      have := (h b (by simp)).1
      omega
    · by_cases h2 : 57 < b.toNat
      · rw [if_neg (by omega), if_pos (by omega)]
        refine ⟨fun h => ?_, fun _ => rfl⟩
        have := (h b (by simp)).2
        omega
      · rw [if_neg (by omega), if_neg (by omega)]
        have e : wrap64 (wrap64 (10 * (acc : Int)) + ((b.toNat : Int) - 48) % 256) = ((10 * acc + (b.toNat - 48) : Nat) : Int) := by
          rw [b_wrap (10 * (acc : Int)) (by omega) (by omega), b_wrap _ (by omega) (by omega)]; omega
        rw [e]
        have hdig : dig b := ⟨by omega, by omega⟩
        obtain ⟨g1, g2⟩ := ih k (i + 1) (10 * acc + (b.toNat - 48)) (by omega) (by omega) (by omega) (by rw [Nat.pow_succ]; omega)
        refine ⟨fun h => ?_, fun h => ?_⟩
        · rw [g1 (fun x hx => h x (by simp [hx]))]; rfl
        · refine g2 (fun q => h (fun x hx => ?_))
          rcases List.mem_cons.1 hx with rfl | hx
          · exact hdig
          · exact q x hx
theorem l01Number_t (a : ByteArray) (k : Nat) (hk : 30 ≤ k) : (good a.data.toList → spec_l01Number.f k a = some (((spell 0 a.data.toList : Nat) : Int), true)) ∧ (¬ good a.data.toList → spec_l01Number.f k a = some (0, false)) := by
  obtain ⟨k, rfl⟩ : ∃ m, k = m + 1 := ⟨k - 1, by omega⟩
  unfold spec_l01Number.f
  rw [Lib.toList_data]
  by_cases h0 : a.data.toList = ([] : List UInt8)
  · rw [if_pos h0]
    refine ⟨fun h => absurd h0 h.1, fun _ => ?_⟩
    simp [spec_l01Number.j0]
  · rw [if_neg h0]
    by_cases h1 : (a.size : Int) > 9
    · rw [if_pos h1]
      refine ⟨fun h => ?_, fun _ => by simp [spec_l01Number.j0]⟩
      have := h.2.1
      rw [sz_d] at this
      omega
    · rw [if_neg h1]
      have hs : 0 < a.data.toList.length := List.length_pos_iff.2 h0
      have hs' := hs
      rw [sz_d] at hs'
      rw [if_pos (by omega)]
      have hb := bt_l a 0 hs
      have hb0 : bt a 0 = ((a.data.toList[0]).toNat : Int) := hb
      have hh : a.data.toList.head? = some a.data.toList[0] := by rw [List.head?_eq_getElem?, List.getElem?_eq_getElem hs]
      obtain ⟨g1, g2⟩ := l01Number_l a (by omega) a.size k 0 0 (by omega) (by omega) (by omega) (by decide)
      rw [List.drop_zero] at g1 g2
      have run : ∀ q : (a.data.toList.head? = some 48 → a.data.toList.length = 1), (good a.data.toList → spec_l01Number.l0 k a 0 0 = some (((spell 0 a.data.toList : Nat) : Int), true)) ∧ (¬ good a.data.toList → spec_l01Number.l0 k a 0 0 = some (0, false)) := fun q =>
        ⟨fun h => g1 h.2.2.2, fun h => g2 (fun hd => h ⟨h0, by rw [sz_d]; omega, q, hd⟩)⟩
      rw [hb0]
      by_cases h48 : ((a.data.toList[0]).toNat : Int) = 48
      · rw [if_pos h48]
        have e48 : a.data.toList[0] = 48 := UInt8.toNat_inj.1 (by have e : (48 : UInt8).toNat = 48 := rfl; omega)
        by_cases hl : a.size = 1
        · have hf : decide ((a.size : Int) > 1) = false := decide_eq_false (by omega)
          rw [hf]
          simp only [spec_l01Number.j0, Bool.false_eq_true, if_false]
          exact run (fun _ => by rw [sz_d]; exact hl)
        · have hf : decide ((a.size : Int) > 1) = true := decide_eq_true (by omega)
          rw [hf]
          simp only [spec_l01Number.j0, if_true]
          refine ⟨fun h => ?_, fun _ => trivial⟩
          have := h.2.2.1 (by rw [hh, e48])
          rw [sz_d] at this
          exact absurd this hl
      · rw [if_neg h48]
        simp only [spec_l01Number.j0, Bool.false_eq_true, if_false]
        refine run (fun q => ?_)
        rw [hh] at q
        have : a.data.toList[0] = 48 := Option.some.inj q
        rw [this] at h48
        exact absurd rfl h48
theorem c_wrap (x : Int) (h : -9223372036854775808 ≤ x) (h' : x ≤ 9223372036854775807) : wrap64 x = x := by
  unfold wrap64; omega
/-- The fields of all cuts fit their kinds. -/
def Fit (l : List S62) : Prop := ∀ j : Nat, (-32768 ≤ (l.getD j z62).f0 ∧ (l.getD j z62).f0 ≤ 32767) ∧ (-32768 ≤ (l.getD j z62).f1 ∧ (l.getD j z62).f1 ≤ 32767) ∧ (-128 ≤ (l.getD j z62).f2 ∧ (l.getD j z62).f2 ≤ 127)
theorem rd62 (l : List S62) (i : Nat) : rd_T62 l (i : Int) = l.getD i z62 := by unfold rd_T62; rw [Int.toNat_natCast]
/-- A cut that is plain, with eight cutters. -/
def Pl (x : S62) : Prop := (0 ≤ x.f0 ∧ x.f0 ≤ 359) ∧ (0 ≤ x.f1 ∧ x.f1 ≤ 10000) ∧ (0 ≤ x.f2 ∧ x.f2 ≤ 7)
theorem are_l (l : List S62) (hl : l.length ≤ 1048576) (hF : Fit l) (d : Nat) : ∀ (k i : Nat), l.length - i = d → d < k →
    ∃ v, impl_Cut_c64_76.l0 k l (l.length : Int) (i : Int) [8] = some v ∧ ((!(decide (v ≥ 0))) = true ↔ ∀ j, i ≤ j → j < l.length → Pl (l.getD j z62)) := by
  induction d with
  | zero =>
    intro k i hd hk
    obtain ⟨k, rfl⟩ : ∃ m, k = m + 1 := ⟨k - 1, by omega⟩
    refine ⟨-1, ?_, ?_⟩
    · simp only [impl_Cut_c64_76.l0]; rw [if_neg (by omega)]
    · have e : (!(decide ((-1 : Int) ≥ 0))) = true := by decide
      rw [e]; simp only [true_iff]; intro j h1 h2; omega
  | succ d ih =>
    intro k i hd hk
    obtain ⟨k, rfl⟩ : ∃ m, k = m + 1 := ⟨k - 1, by omega⟩
    obtain ⟨b0, b1, b2⟩ := hF i
    have p1 : (i : Int) < (l.length : Int) := by omega
    have p2 : 0 ≤ (i : Int) := by omega
    have w : wrap64 ((i : Int) + 1) = ((i + 1 : Nat) : Int) := by rw [c_wrap _ (by omega) (by omega)]; omega
    simp only [impl_Cut_c64_76.l0, if_pos p1, if_pos p2, rd62, w]
    unfold impl_areCuts_1.f impl_isLift.f impl_isPlace.f
    rw [c_wrap _ (by omega) (by omega), c_wrap _ (by omega) (by omega), c_wrap _ (by omega) (by omega)]
    rw [show wrap64 (rd [8] 0 - 1) = 7 by rw [show rd [8] 0 - 1 = 7 from rfl]; exact c_wrap _ (by omega) (by omega)]
    simp only [impl_inRange_t, Option.bind_some]
    have stop : ∀ q : ¬ Pl (l.getD i z62), ∃ v, some ((i : Nat) : Int) = some v ∧ ((!(decide (v ≥ 0))) = true ↔ ∀ j, i ≤ j → j < l.length → Pl (l.getD j z62)) := fun q =>
      ⟨i, rfl, ⟨(fun h => by simp at h), fun h => absurd (h i (Nat.le_refl _) (by omega)) q⟩⟩
    by_cases c0 : 0 ≤ (l.getD i z62).f0 ∧ (l.getD i z62).f0 ≤ 359
    · by_cases c1 : 0 ≤ (l.getD i z62).f1 ∧ (l.getD i z62).f1 ≤ 10000
      · by_cases c2 : 0 ≤ (l.getD i z62).f2 ∧ (l.getD i z62).f2 ≤ 7
        · obtain ⟨v, h2, h4⟩ := ih k (i + 1) (by omega) (by omega)
          refine ⟨v, ?_, ?_⟩
          · simp only [decide_eq_true c0, decide_eq_true c1, decide_eq_true c2, if_true, List.length_singleton, show (0 : Int) < ((1 : Nat) : Int) by omega, Option.bind_some, Bool.not_true, Bool.false_eq_true, if_false]; exact h2
          · rw [h4]
            refine ⟨fun h j q1 q2 => ?_, fun h j q1 q2 => h j (by omega) q2⟩
            by_cases e : j = i
            · subst e; exact ⟨c0, c1, c2⟩
            · exact h j (by omega) q2
        · have := stop (fun q => c2 q.2.2)
          simpa only [decide_eq_true c0, decide_eq_true c1, decide_eq_false c2, if_true, Bool.false_eq_true, if_false, List.length_singleton, show (0 : Int) < ((1 : Nat) : Int) by omega, Option.bind_some, Bool.not_false] using this
      · have := stop (fun q => c1 q.2.1)
        simpa only [decide_eq_true c0, decide_eq_false c1, if_true, Bool.false_eq_true, if_false, Option.bind_some] using this
    · have := stop (fun q => c0 q.1)
      simpa only [decide_eq_false c0, if_true, Bool.false_eq_true, if_false, Option.bind_some] using this
theorem are_t (l : List S62) (hl : l.length ≤ 1048576) (hF : Fit l) : ∃ b : Bool, (b = true ↔ l.length ≤ 400 ∧ ∀ j, j < l.length → Pl (l.getD j z62)) ∧ ∀ k, l.length < k → impl_areCuts.f k l 8 = some b := by
  by_cases h : l.length ≤ 400
  · obtain ⟨v, h2, h4⟩ := are_l l hl hF l.length (l.length + 1) 0 (by omega) (by omega)
    refine ⟨!(decide (v ≥ 0)), ?_, fun k hk => ?_⟩
    · rw [h4]; exact ⟨fun q => ⟨h, fun j hj => q j (by omega) hj⟩, fun q j _ hj => q.2 j hj⟩
    · have h2' := at_rounds (fun k => (impl_Cut_c64_76.mono_l k) l (l.length : Int) ((0 : Nat) : Int) [8]) (show l.length + 1 ≤ k by omega) h2
      unfold impl_areCuts.f impl_Cut_c64_63.f impl_Cut_c64_76.f
      rw [if_pos (by omega), show (0 : Int) = ((0 : Nat) : Int) from rfl, h2']
      simp only [Option.bind_some]
  · refine ⟨false, ⟨(fun q => by cases q), fun q => absurd q.1 h⟩, fun k hk => ?_⟩
    unfold impl_areCuts.f; rw [if_neg (by omega)]
theorem all_getD (l : List S62) : (∀ j, j < l.length → Pl (l.getD j z62)) ↔ ∀ x ∈ l, Pl x := by
  constructor
  · intro h x hx
    obtain ⟨i, hi⟩ := List.getElem?_of_mem hx
    have hl := (List.getElem?_eq_some_iff.1 hi).1
    have := h i hl
    rw [List.getD_eq_getElem?_getD, hi] at this
    exact this
  · intro h j hj
    rw [List.getD_eq_getElem?_getD, List.getElem?_eq_getElem hj]
    exact h _ (List.getElem_mem hj)
theorem fit_of (l : List S62) (h : ∀ x ∈ l, (-32768 ≤ x.f0 ∧ x.f0 ≤ 32767) ∧ (-32768 ≤ x.f1 ∧ x.f1 ≤ 32767) ∧ (-128 ≤ x.f2 ∧ x.f2 ≤ 127)) : Fit l := by
  intro j
  by_cases hj : j < l.length
  · rw [List.getD_eq_getElem?_getD, List.getElem?_eq_getElem hj]
    exact h _ (List.getElem_mem hj)
  · rw [List.getD_eq_getElem?_getD, List.getElem?_eq_none (by omega)]
    show (-32768 ≤ z62.f0 ∧ z62.f0 ≤ 32767) ∧ (-32768 ≤ z62.f1 ∧ z62.f1 ≤ 32767) ∧ (-128 ≤ z62.f2 ∧ z62.f2 ≤ 127)
    unfold z62; simp
theorem eqCutS_l (l : List S62) (hl : l.length ≤ 1048576) (d : Nat) : ∀ (k : Nat) (i : Nat), l.length - i = d → d < k → laws_eqCutS.l0 k l l (i : Int) = some true := by
  induction d with
  | zero =>
    intro k i hd hk
    obtain ⟨k, rfl⟩ : ∃ m, k = m + 1 := ⟨k - 1, by omega⟩
    simp only [laws_eqCutS.l0]; rw [if_neg (by omega)]
  | succ d ih =>
    intro k i hd hk
    obtain ⟨k, rfl⟩ : ∃ m, k = m + 1 := ⟨k - 1, by omega⟩
    simp only [laws_eqCutS.l0, laws_eqCut.f]; rw [if_pos (by omega), if_pos (by omega), if_pos (by omega)]
    simp only [if_true, Option.bind_some]
    rw [c_wrap _ (by omega) (by omega), show ((i : Int) + 1) = ((i + 1 : Nat) : Int) by omega]
    exact ih k (i + 1) (by omega) (by omega)
theorem eqCutS_t (l : List S62) (hl : l.length ≤ 1048576) (k : Nat) (hk : l.length < k) : laws_eqCutS.f k l l = some true := by
  unfold laws_eqCutS.f
  rw [if_pos rfl, show (0 : Int) = ((0 : Nat) : Int) from rfl]
  exact eqCutS_l l hl l.length k 0 (by omega) hk
/-- A list marked from v on. -/
def mk (v : Int) : List S62 → List S62
  | [] => []
  | _ :: l => ⟨IntKind.i16.wrap v, IntKind.i16.wrap (v + 1), IntKind.i8.wrap (v + 2)⟩ :: mk (v + 3) l
theorem mk_len (l : List S62) : ∀ v, (mk v l).length = l.length := by
  induction l with
  | nil => intro v; rfl
  | cons x l ih => intro v; simp [mk, ih]
theorem getD_set_self (x : List S62) (i : Nat) (s : S62) (h : i < x.length) : (x.set i s).getD i z62 = s := by
  rw [List.getD_eq_getElem?_getD, List.getElem?_set_self h]; rfl
theorem mark_l (d : Nat) : ∀ (k : Nat) (x : List S62) (v : Int) (i : Nat), x.length - i = d → i ≤ x.length → x.length ≤ 1048576 → d < k → 0 ≤ v → v ≤ 4611686018427387904 - 3 * d →
    laws_markCutS.l0 k x v (i : Int) = some (v + 3 * d, x.take i ++ mk v (x.drop i)) := by
  induction d with
  | zero =>
    intro k x v i hd hi hx hk hv hb
    obtain ⟨k, rfl⟩ : ∃ m, k = m + 1 := ⟨k - 1, by omega⟩
    simp only [laws_markCutS.l0]; rw [if_neg (by omega), List.take_of_length_le (by omega), List.drop_of_length_le (by omega)]; simp [mk]
  | succ d ih =>
    intro k x v i hd hi' hx hk hv hb
    obtain ⟨k, rfl⟩ : ∃ m, k = m + 1 := ⟨k - 1, by omega⟩
    have hi : i < x.length := by omega
    have e0 : wrap64 (v + 1) = v + 1 := c_wrap _ (by omega) (by omega)
    have e2 : wrap64 (v + 1 + 1) = v + 2 := by rw [c_wrap _ (by omega) (by omega)]; omega
    have e3 : wrap64 (v + 2 + 1) = v + 3 := by rw [c_wrap _ (by omega) (by omega)]; omega
    have w : wrap64 ((i : Int) + 1) = ((i + 1 : Nat) : Int) := by rw [c_wrap _ (by omega) (by omega)]; omega
    simp only [laws_markCutS.l0, Option.bind_some, e0, e2, e3, w, rd62, Int.toNat_natCast]; rw [if_pos (by omega), if_pos (by omega)]
    have g1 : ∀ s : S62, (x.set i s).getD i z62 = s := fun s => getD_set_self x i s hi
    simp only [List.set_set, g1]
    rw [ih k _ (v + 3) (i + 1) (by rw [List.length_set]; omega) (by rw [List.length_set]; omega) (by rw [List.length_set]; exact hx) (by omega) (by omega) (by omega)]
    have h' : i < (x.set i (⟨IntKind.i16.wrap v, IntKind.i16.wrap (v + 1), IntKind.i8.wrap (v + 2)⟩ : S62)).length := by rw [List.length_set]; exact hi
    rw [List.take_succ_eq_append_getElem h', List.getElem_set_self, List.take_set_of_le (Nat.le_refl i), List.drop_set_of_lt (by omega), List.drop_eq_getElem_cons hi, mk, List.append_assoc]
    congr 2
    omega
theorem held_l (z : List S62) : ∀ (k : Nat) (y : List S62) (v : Int) (i : Nat), y.drop i = mk v z → i ≤ y.length → y.length ≤ 1048576 → z.length < k → 0 ≤ v → v ≤ 4611686018427387904 - 3 * (z.length : Int) →
    laws_heldCutS.l0 k y v (i : Int) = some (v + 3 * (z.length : Int)) := by
  induction z with
  | nil =>
    intro k y v i hz hi hy hk hv hb
    obtain ⟨k, rfl⟩ : ∃ m, k = m + 1 := ⟨k - 1, by omega⟩
    have h1 := congrArg List.length hz
    rw [List.length_drop] at h1
    have h1' : y.length - i = 0 := h1
    simp only [laws_heldCutS.l0]; rw [if_neg (by omega)]; simp
  | cons x z ih =>
    intro k y v i hz hi' hy hk hv hb
    obtain ⟨k, rfl⟩ : ∃ m, k = m + 1 := ⟨k - 1, by omega⟩
    rw [List.length_cons] at hk hb
    have h1 := congrArg List.length hz
    rw [List.length_drop, mk_len, List.length_cons] at h1
    have hi : i < y.length := by omega
    have e0 : wrap64 (v + 1) = v + 1 := c_wrap _ (by omega) (by omega)
    have e2 : wrap64 (v + 1 + 1) = v + 2 := by rw [c_wrap _ (by omega) (by omega)]; omega
    have e3 : wrap64 (v + 2 + 1) = v + 3 := by rw [c_wrap _ (by omega) (by omega)]; omega
    have w : wrap64 ((i : Int) + 1) = ((i + 1 : Nat) : Int) := by rw [c_wrap _ (by omega) (by omega)]; omega
    rw [List.drop_eq_getElem_cons hi, mk] at hz
    obtain ⟨hx, hz'⟩ := List.cons.inj hz
    have hg : y.getD i z62 = (⟨IntKind.i16.wrap v, IntKind.i16.wrap (v + 1), IntKind.i8.wrap (v + 2)⟩ : S62) := by rw [List.getD_eq_getElem?_getD, List.getElem?_eq_getElem hi]; exact hx
    simp only [laws_heldCutS.l0, e0, e2, e3, w, rd62, hg]
    rw [if_pos (by omega), if_pos (by omega), if_pos trivial, if_pos trivial, if_pos trivial, ih k y (v + 3) (i + 1) hz' (by omega) hy (by omega) (by omega) (by omega), List.length_cons]
    congr 1
    omega
theorem w16 (x : Int) (h : -32768 ≤ x) (h' : x ≤ 32767) : IntKind.i16.wrap x = x := by
  unfold IntKind.wrap; simp only [IntKind.bits, IntKind.signed, Bool.true_and]; split <;> rename_i q <;> simp at q ⊢ <;> omega
theorem w8 (x : Int) (h : -128 ≤ x) (h' : x ≤ 127) : IntKind.i8.wrap x = x := by
  unfold IntKind.wrap; simp only [IntKind.bits, IntKind.signed, Bool.true_and]; split <;> rename_i q <;> simp at q ⊢ <;> omega
theorem w16_b (x : Int) : -32768 ≤ IntKind.i16.wrap x ∧ IntKind.i16.wrap x ≤ 32767 := by
  unfold IntKind.wrap; simp only [IntKind.bits, IntKind.signed, Bool.true_and]; split <;> rename_i q <;> simp at q ⊢ <;> omega
theorem w8_b (x : Int) : -128 ≤ IntKind.i8.wrap x ∧ IntKind.i8.wrap x ≤ 127 := by
  unfold IntKind.wrap; simp only [IntKind.bits, IntKind.signed, Bool.true_and]; split <;> rename_i q <;> simp at q ⊢ <;> omega
theorem data_inj : ∀ (xs ys : List ByteArray), xs.map (·.data.toList) = ys.map (·.data.toList) → xs = ys
  | [], [], _ => rfl
  | [], _ :: _, h => by simp at h
  | _ :: _, [], h => by simp at h
  | x :: xs, y :: ys, h => by
    rw [List.map_cons, List.map_cons] at h
    obtain ⟨h1, h2⟩ := List.cons.inj h
    have e : x = y := ByteArray.ext (Array.toList_inj.1 h1)
    rw [e, data_inj xs ys h2]
/-- A cut's line. -/
def ln (x : S62) : List UInt8 := Lib.itoa x.f0 ++ 32 :: (Lib.itoa x.f1 ++ 32 :: Lib.itoa x.f2)
theorem itoa_no (a : Int) (h : 0 ≤ a) (c : UInt8) (hc : ¬ dig c) : c ∉ Lib.itoa a := by
  obtain ⟨n, rfl⟩ := Int.eq_ofNat_of_zero_le h
  rw [Lib.itoa_nonneg]
  exact no32 n c hc
theorem nd32 : ¬ dig 32 := by unfold dig; decide
theorem nd10 : ¬ dig 10 := by unfold dig; decide
theorem line_ln (x : S62) (h : Pl x) : impl_CutsText.line x = ln x ++ [10] := by
  obtain ⟨⟨a, a'⟩, ⟨b, b'⟩, ⟨c, c'⟩⟩ := h
  unfold impl_CutsText.line ln
  rw [c_wrap x.f0 (by omega) (by omega), c_wrap x.f1 (by omega) (by omega), c_wrap x.f2 (by omega) (by omega)]
  simp
theorem ln_sp (x : S62) (h : Pl x) : sp 32 (ln x) = [Lib.itoa x.f0, Lib.itoa x.f1, Lib.itoa x.f2] := by
  obtain ⟨⟨a, a'⟩, ⟨b, b'⟩, ⟨c, c'⟩⟩ := h
  unfold ln
  rw [sp_app 32 _ (itoa_no _ a 32 nd32), sp_app 32 _ (itoa_no _ b 32 nd32), sp_one 32 _ (itoa_no _ c 32 nd32)]
theorem ln_no (x : S62) (h : Pl x) : (10 : UInt8) ∉ ln x := by
  obtain ⟨⟨a, a'⟩, ⟨b, b'⟩, ⟨c, c'⟩⟩ := h
  unfold ln
  intro q
  rcases List.mem_append.1 q with q | q
  · exact itoa_no _ a 10 nd10 q
  · rcases List.mem_cons.1 q with q | q
    · exact absurd q (by decide)
    · rcases List.mem_append.1 q with q | q
      · exact itoa_no _ b 10 nd10 q
      · rcases List.mem_cons.1 q with q | q
        · exact absurd q (by decide)
        · exact itoa_no _ c 10 nd10 q
theorem itoa_good (a : Int) (h : 0 ≤ a) (h' : a < 1000000000) : good (Lib.itoa a) ∧ ((spell 0 (Lib.itoa a) : Nat) : Int) = a := by
  obtain ⟨n, rfl⟩ := Int.eq_ofNat_of_zero_le h
  rw [Lib.itoa_nonneg]
  exact ⟨dec_good n (by omega), by rw [(dd n).2.1]⟩
theorem good_itoa (l : List UInt8) (h : good l) : Lib.itoa ((spell 0 l : Nat) : Int) = l := by rw [Lib.itoa_nonneg, good_dec l h]
theorem ln_inj (x y : S62) (hx : Pl x) (hy : Pl y) (h : ln x = ln y) : x = y := by
  have e := ln_sp x hx
  rw [h, ln_sp y hy] at e
  simp only [List.cons.injEq, and_true] at e
  obtain ⟨e0, e1, e2⟩ := e
  obtain ⟨⟨a, a'⟩, ⟨b, b'⟩, ⟨c, c'⟩⟩ := hx
  obtain ⟨⟨p, p'⟩, ⟨q, q'⟩, ⟨r, r'⟩⟩ := hy
  have f0 := (itoa_good x.f0 a (by omega)).2
  have f1 := (itoa_good x.f1 b (by omega)).2
  have f2 := (itoa_good x.f2 c (by omega)).2
  rw [← e0, (itoa_good y.f0 p (by omega)).2] at f0
  rw [← e1, (itoa_good y.f1 q (by omega)).2] at f1
  rw [← e2, (itoa_good y.f2 r (by omega)).2] at f2
  cases x; cases y
  simp_all
theorem map_ln_inj : ∀ (xs ys : List S62), (∀ x ∈ xs, Pl x) → (∀ y ∈ ys, Pl y) → xs.map ln = ys.map ln → xs = ys
  | [], [], _, _, _ => rfl
  | [], _ :: _, _, _, h => by simp at h
  | _ :: _, [], _, _, h => by simp at h
  | x :: xs, y :: ys, hx, hy, h => by
    rw [List.map_cons, List.map_cons] at h
    obtain ⟨h1, h2⟩ := List.cons.inj h
    rw [ln_inj x y (hx x (by simp)) (hy y (by simp)) h1, map_ln_inj xs ys (fun z hz => hx z (by simp [hz])) (fun z hz => hy z (by simp [hz])) h2]
/-- The text of a list of cuts, parted at its lines' ends. -/
theorem text_sp : ∀ (xs : List S62), (∀ x ∈ xs, Pl x) → sp 10 (xs.flatMap impl_CutsText.line) = xs.map ln ++ [[]]
  | [], _ => rfl
  | x :: xs, h => by
    have hx := h x (by simp)
    rw [List.flatMap_cons, line_ln x hx, List.append_assoc, List.singleton_append, sp_app 10 _ (ln_no x hx), text_sp xs (fun z hz => h z (by simp [hz]))]
    rfl
theorem text_jn : ∀ (xs : List S62), (∀ x ∈ xs, Pl x) → jn 10 (xs.map ln ++ [[]]) = xs.flatMap impl_CutsText.line := fun xs h => by
  rw [← text_sp xs h, sp_join]
/-- The text is that of these cuts. -/
def Is (l : List UInt8) (xs : List S62) : Prop := (∀ x ∈ xs, Pl x) ∧ xs.length ≤ 400 ∧ xs.flatMap impl_CutsText.line = l
theorem is_one (l : List UInt8) (xs ys : List S62) (hx : Is l xs) (hy : Is l ys) : xs = ys := by
  have e := text_sp xs hx.1
  rw [hx.2.2, ← hy.2.2, text_sp ys hy.1] at e
  exact (map_ln_inj ys xs hy.1 hx.1 (List.append_cancel_right e)).symm
/-- The three words of a cut's line, as the model reads them. -/
def G3 (a b c : List UInt8) : Prop := good a ∧ good b ∧ good c ∧ spell 0 a < 360 ∧ spell 0 b ≤ 10000 ∧ spell 0 c < 8
def cut3 (a b c : List UInt8) : S62 := ⟨((spell 0 a : Nat) : Int), ((spell 0 b : Nat) : Int), ((spell 0 c : Nat) : Int)⟩
theorem g3_line (l a b c : List UInt8) (hs : sp 32 l = [a, b, c]) (h : G3 a b c) : Pl (cut3 a b c) ∧ ln (cut3 a b c) = l := by
  obtain ⟨ga, gb, gc, ha, hb, hc⟩ := h
  have hj := sp_join 32 l
  rw [hs] at hj
  refine ⟨⟨?_, ?_, ?_⟩, ?_⟩
  · show 0 ≤ ((spell 0 a : Nat) : Int) ∧ ((spell 0 a : Nat) : Int) ≤ 359; omega
  · show 0 ≤ ((spell 0 b : Nat) : Int) ∧ ((spell 0 b : Nat) : Int) ≤ 10000; omega
  · show 0 ≤ ((spell 0 c : Nat) : Int) ∧ ((spell 0 c : Nat) : Int) ≤ 7; omega
  · show Lib.itoa ((spell 0 a : Nat) : Int) ++ 32 :: (Lib.itoa ((spell 0 b : Nat) : Int) ++ 32 :: Lib.itoa ((spell 0 c : Nat) : Int)) = l
    rw [good_itoa a ga, good_itoa b gb, good_itoa c gc]
    exact hj
theorem line_g3 (l a b c : List UInt8) (hs : sp 32 l = [a, b, c]) (z : S62) (hz : Pl z) (h : ln z = l) : G3 a b c ∧ z = cut3 a b c := by
  rw [← h, ln_sp z hz] at hs
  simp only [List.cons.injEq, and_true] at hs
  obtain ⟨rfl, rfl, rfl⟩ := hs
  obtain ⟨⟨p, p'⟩, ⟨q, q'⟩, ⟨r, r'⟩⟩ := hz
  have f0 := itoa_good z.f0 p (by omega)
  have f1 := itoa_good z.f1 q (by omega)
  have f2 := itoa_good z.f2 r (by omega)
  refine ⟨⟨f0.1, f1.1, f2.1, by omega, by omega, by omega⟩, ?_⟩
  unfold cut3
  rw [f0.2, f1.2, f2.2]
theorem specStep (k : Nat) (x4 : List ByteArray) (acc : List S62) (ok : Bool) (i : Nat) (hi : i < x4.length) (hx : x4.length ≤ 2000000) (w : ByteArray) (hw : rdOf ByteArray.empty x4 (i : Int) = w) (hs : w.size ≤ 1048576) (hk : w.size + 100 ≤ k) (hacc : acc.length ≤ 2000000) :
    (∀ z, Pl z → ln z = w.data.toList → spec_ReadCuts.j2 (k + 1) x4 acc ok (i : Int) true = spec_ReadCuts.l0 k x4 (acc ++ [z]) true ((i + 1 : Nat) : Int)) ∧
    ((∀ z, Pl z → ln z ≠ w.data.toList) → spec_ReadCuts.j2 (k + 1) x4 acc ok (i : Int) true = some ([], 5) ∨ spec_ReadCuts.j2 (k + 1) x4 acc ok (i : Int) true = spec_ReadCuts.l0 k x4 acc false ((i + 1 : Nat) : Int)) := by
  have e1 : wrap64 ((i : Int) + 1) = ((i + 1 : Nat) : Int) := by rw [c_wrap _ (by omega) (by omega)]; omega
  obtain ⟨ws, h1, h2⟩ := l01Split_t w hs 32 k (by omega)
  have h1' : spec_l01Split.f k w 32 = some ws := h1
  have p1 : (i : Int) < (x4.length : Int) := by omega
  have p2 : 0 ≤ (i : Int) := by omega
  simp only [spec_ReadCuts.j2, if_true, if_pos p1, if_pos p2, hw, h1', e1, Option.bind_some]
  by_cases hl : ws.length = 3
  · match ws, hl, h2 with
    | [a, b, c], _, h2 =>
      have h2' : sp 32 w.data.toList = [a.data.toList, b.data.toList, c.data.toList] := h2.symm
      have l3 : (([a, b, c] : List ByteArray).length : Int) = 3 := rfl
      have q0 : (0 : Int) < (([a, b, c] : List ByteArray).length : Int) := by simp
      have q1 : (1 : Int) < (([a, b, c] : List ByteArray).length : Int) := by simp
      have q2 : (2 : Int) < (([a, b, c] : List ByteArray).length : Int) := by simp
      have r0 : rdOf ByteArray.empty [a, b, c] 0 = a := rfl
      have r1 : rdOf ByteArray.empty [a, b, c] 1 = b := rfl
      have r2 : rdOf ByteArray.empty [a, b, c] 2 = c := rfl
      obtain ⟨ga, na⟩ := l01Number_t a k (by omega)
      obtain ⟨gb, nb⟩ := l01Number_t b k (by omega)
      obtain ⟨gc, nc⟩ := l01Number_t c k (by omega)
      simp only [if_pos l3, if_pos q0, if_pos q1, if_pos q2, r0, r1, r2]
      have bad : ¬ G3 a.data.toList b.data.toList c.data.toList → ∀ z, Pl z → ln z = w.data.toList → False := fun h z hz e => h (line_g3 _ _ _ _ h2' z hz e).1
      by_cases ha : good a.data.toList
      · by_cases hb : good b.data.toList
        · by_cases hc : good c.data.toList
          · rw [ga ha, gb hb, gc hc]
            simp only [Option.bind_some, if_true]
            by_cases v0 : spell 0 a.data.toList < 360
            · by_cases v1 : spell 0 b.data.toList ≤ 10000
              · by_cases v2 : spell 0 c.data.toList < 8
                · have hg : G3 a.data.toList b.data.toList c.data.toList := ⟨ha, hb, hc, v0, v1, v2⟩
                  have t0 : ((spell 0 a.data.toList : Nat) : Int) < 360 := by omega
                  have t1 : ((spell 0 b.data.toList : Nat) : Int) ≤ 10000 := by omega
                  have t2 : ((spell 0 c.data.toList : Nat) : Int) < 8 := by omega
                  rw [if_pos t0, if_pos t1, if_pos t2, if_pos (by omega), decide_eq_true t2, w16 _ (by omega) (by omega), w16 _ (by omega) (by omega), w8 _ (by omega) (by omega)]
                  refine ⟨fun z hz e => ?_, fun h => absurd (g3_line _ _ _ _ h2' hg).2 (h _ (g3_line _ _ _ _ h2' hg).1)⟩
                  rw [(line_g3 _ _ _ _ h2' z hz e).2]
                  rfl
                · have t0 : ((spell 0 a.data.toList : Nat) : Int) < 360 := by omega
                  have t1 : ((spell 0 b.data.toList : Nat) : Int) ≤ 10000 := by omega
                  have t2 : ¬ ((spell 0 c.data.toList : Nat) : Int) < 8 := by omega
                  rw [if_pos t0, if_pos t1, if_neg t2, decide_eq_false t2]
                  exact ⟨fun z hz e => (bad (fun g => v2 g.2.2.2.2.2) z hz e).elim, fun _ => .inr rfl⟩
              · have t0 : ((spell 0 a.data.toList : Nat) : Int) < 360 := by omega
                have t1 : ¬ ((spell 0 b.data.toList : Nat) : Int) ≤ 10000 := by omega
                rw [if_pos t0, if_neg t1]
                exact ⟨fun z hz e => (bad (fun g => v1 g.2.2.2.2.1) z hz e).elim, fun _ => .inr rfl⟩
            · have t0 : ¬ ((spell 0 a.data.toList : Nat) : Int) < 360 := by omega
              rw [if_neg t0]
              exact ⟨fun z hz e => (bad (fun g => v0 g.2.2.2.1) z hz e).elim, fun _ => .inr rfl⟩
          · rw [ga ha, gb hb, nc hc]
            exact ⟨fun z hz e => (bad (fun g => hc g.2.2.1) z hz e).elim, fun _ => .inr (by simp)⟩
        · by_cases hc : good c.data.toList
          · rw [ga ha, nb hb, gc hc]
            exact ⟨fun z hz e => (bad (fun g => hb g.2.1) z hz e).elim, fun _ => .inr (by simp)⟩
          · rw [ga ha, nb hb, nc hc]
            exact ⟨fun z hz e => (bad (fun g => hb g.2.1) z hz e).elim, fun _ => .inr (by simp)⟩
      · by_cases hb : good b.data.toList
        · by_cases hc : good c.data.toList
          · rw [na ha, gb hb, gc hc]
            exact ⟨fun z hz e => (bad (fun g => ha g.1) z hz e).elim, fun _ => .inr (by simp)⟩
          · rw [na ha, gb hb, nc hc]
            exact ⟨fun z hz e => (bad (fun g => ha g.1) z hz e).elim, fun _ => .inr (by simp)⟩
        · by_cases hc : good c.data.toList
          · rw [na ha, nb hb, gc hc]
            exact ⟨fun z hz e => (bad (fun g => ha g.1) z hz e).elim, fun _ => .inr (by simp)⟩
          · rw [na ha, nb hb, nc hc]
            exact ⟨fun z hz e => (bad (fun g => ha g.1) z hz e).elim, fun _ => .inr (by simp)⟩
  · have l3 : ¬ ((ws.length : Int) = 3) := by omega
    rw [if_neg l3]
    refine ⟨fun z hz e => ?_, fun _ => .inl rfl⟩
    have := congrArg List.length h2
    rw [← e, ln_sp z hz, List.length_map] at this
    exact absurd this hl
theorem specLoop (x4 : List ByteArray) (n : Nat) (hn : x4.length = n + 1) (hsz : ∀ w ∈ x4, w.size ≤ 1048576) (hx : n ≤ 1048576) (d : Nat) : ∀ (k i : Nat) (acc : List S62) (ok : Bool), n - i = d → i ≤ n → 2 * d + 1049000 < k → acc.length ≤ i →
    ∃ r, spec_ReadCuts.l0 k x4 acc ok (i : Int) = some r ∧ ((∃ ys : List S62, (∀ y ∈ ys, Pl y) ∧ ((x4.map (·.data.toList)).take n).drop i = ys.map ln ∧ ok = true ∧ r = (acc ++ ys, 0)) ∨
      ((¬ ∃ ys : List S62, (∀ y ∈ ys, Pl y) ∧ ((x4.map (·.data.toList)).take n).drop i = ys.map ln ∧ ok = true) ∧ r = ([], 5))) := by
  induction d with
  | zero =>
    intro k i acc ok hd hi hk hacc
    obtain ⟨k, rfl⟩ : ∃ m, k = m + 1 + 1 := ⟨k - 2, by omega⟩
    have e1 : wrap64 ((i : Int) + 1) = ((i + 1 : Nat) : Int) := by rw [c_wrap _ (by omega) (by omega)]; omega
    have p : ¬ (((i + 1 : Nat) : Int) < (x4.length : Int)) := by omega
    have ed : ((x4.map (·.data.toList)).take n).drop i = [] := List.drop_of_length_le (by rw [List.length_take]; omega)
    rw [ed]
    simp only [spec_ReadCuts.l0, e1, if_neg p, spec_ReadCuts.j2, Bool.false_eq_true, if_false]
    cases ok with
    | true => exact ⟨(acc, 0), by simp, .inl ⟨[], by simp, rfl, rfl, by simp⟩⟩
    | false => exact ⟨([], 5), by simp, .inr ⟨fun ⟨_, _, _, h⟩ => (by cases h), rfl⟩⟩
  | succ d ih =>
    intro k i acc ok hd hi hk hacc
    obtain ⟨k, rfl⟩ : ∃ m, k = m + 1 + 1 := ⟨k - 2, by omega⟩
    have hlt : i < x4.length := by omega
    have e1 : wrap64 ((i : Int) + 1) = ((i + 1 : Nat) : Int) := by rw [c_wrap _ (by omega) (by omega)]; omega
    have p : ((i + 1 : Nat) : Int) < (x4.length : Int) := by omega
    obtain ⟨w, hw⟩ : ∃ w, w = x4[i] := ⟨_, rfl⟩
    have hrd : rdOf ByteArray.empty x4 (i : Int) = w := by unfold rdOf; rw [Int.toNat_natCast, List.getD_eq_getElem?_getD, List.getElem?_eq_getElem hlt, hw]; rfl
    have hws : w.size ≤ 1048576 := hsz w (by rw [hw]; exact List.getElem_mem hlt)
    have hlt2 : i < ((x4.map (·.data.toList)).take n).length := by rw [List.length_take, List.length_map]; omega
    have ed : ((x4.map (·.data.toList)).take n).drop i = w.data.toList :: ((x4.map (·.data.toList)).take n).drop (i + 1) := by
      rw [List.drop_eq_getElem_cons hlt2, List.getElem_take, List.getElem_map, hw]
    rw [ed]
    simp only [spec_ReadCuts.l0, e1, if_pos p]
    cases ok with
    | false =>
      refine ⟨([], 5), by simp [spec_ReadCuts.j2], .inr ⟨fun ⟨_, _, _, h⟩ => (by cases h), rfl⟩⟩
    | true =>
      obtain ⟨sA, sB⟩ := specStep k x4 acc true i hlt (by omega) w hrd hws (by omega) (by omega)
      by_cases hz : ∃ z, Pl z ∧ ln z = w.data.toList
      · obtain ⟨z, hz1, hz2⟩ := hz
        rw [sA z hz1 hz2]
        obtain ⟨r, h1, h2⟩ := ih k (i + 1) (acc ++ [z]) true (by omega) (by omega) (by omega) (by rw [List.length_append, List.length_singleton]; omega)
        refine ⟨r, h1, ?_⟩
        rcases h2 with ⟨ys, y1, y2, _, y4⟩ | ⟨h3, h4⟩
        · refine .inl ⟨z :: ys, fun y hy => ?_, by rw [y2, ← hz2]; rfl, rfl, by rw [y4]; simp⟩
          rcases List.mem_cons.1 hy with rfl | hy
          · exact hz1
          · exact y1 y hy
        · refine .inr ⟨fun ⟨ys, y1, y2, _⟩ => h3 ?_, h4⟩
          cases ys with
          | nil => simp at y2
          | cons y ys =>
            rw [List.map_cons] at y2
            exact ⟨ys, fun q hq => y1 q (by simp [hq]), (List.cons.inj y2).2, rfl⟩
      · have hno : ∀ z, Pl z → ln z ≠ w.data.toList := fun z h1 h2 => hz ⟨z, h1, h2⟩
        have none_ : ¬ ∃ ys : List S62, (∀ y ∈ ys, Pl y) ∧ w.data.toList :: ((x4.map (·.data.toList)).take n).drop (i + 1) = ys.map ln ∧ true = true := fun ⟨ys, y1, y2, _⟩ => by
          cases ys with
          | nil => simp at y2
          | cons y ys =>
            rw [List.map_cons] at y2
            exact hno y (y1 y (by simp)) (List.cons.inj y2).1.symm
        rcases sB hno with h | h
        · exact ⟨_, h, .inr ⟨none_, rfl⟩⟩
        · rw [h]
          obtain ⟨r, h1, h2⟩ := ih k (i + 1) acc false (by omega) (by omega) (by omega) (by omega)
          refine ⟨r, h1, .inr ⟨none_, ?_⟩⟩
          rcases h2 with ⟨_, _, _, h, _⟩ | ⟨_, h⟩
          · cases h
          · exact h
theorem sp_sizes (c : UInt8) : ∀ (l x : List UInt8), x ∈ sp c l → x.length ≤ l.length
  | [], x, h => by
    have : x = [] := by simpa [sp] using h
    rw [this]; simp
  | b :: l, x, h => by
    obtain ⟨y, ys, e⟩ := sp_ne c l
    have ih := sp_sizes c l
    by_cases hb : b = c
    · subst hb
      rw [sp_eq] at h
      rcases List.mem_cons.1 h with rfl | h
      · simp
      · have := ih x h; rw [List.length_cons]; omega
    · rw [sp_cons c b l hb e] at h
      rw [e] at ih
      rcases List.mem_cons.1 h with rfl | h
      · have := ih y (by simp); rw [List.length_cons, List.length_cons]; omega
      · have := ih x (by simp [h]); rw [List.length_cons]; omega
theorem sp_count (c : UInt8) : ∀ l, (sp c l).length ≤ l.length + 1
  | [] => by simp [sp]
  | b :: l => by
    obtain ⟨y, ys, e⟩ := sp_ne c l
    have ih := sp_count c l
    by_cases hb : b = c
    · subst hb
      rw [sp_eq, List.length_cons, List.length_cons]; omega
    · rw [e] at ih
      rw [sp_cons c b l hb e, List.length_cons, List.length_cons]
      rw [List.length_cons] at ih; omega
theorem pieces_size (a : ByteArray) (ws : List ByteArray) (c : UInt8) (h : ws.map (·.data.toList) = sp c a.data.toList) (w : ByteArray) (hw : w ∈ ws) : w.size ≤ a.size := by
  have := sp_sizes c a.data.toList w.data.toList (by rw [← h]; exact List.mem_map_of_mem hw)
  rwa [sz_d, sz_d] at this
theorem specAll (a : ByteArray) (ha : a.size ≤ 1048576) (k : Nat) (hk : 4000000 < k) : ∃ r, spec_ReadCuts.f k a = some r ∧ ((∃ xs, Is a.data.toList xs ∧ r = (xs, 0)) ∨ ((¬ ∃ xs, Is a.data.toList xs) ∧ r = ([], 5))) := by
  obtain ⟨ws, h1, h2⟩ := l01Split_t a ha 10 k (by omega)
  have h1' : spec_l01Split.f k a 10 = some ws := h1
  obtain ⟨y, ys, e⟩ := sp_ne 10 a.data.toList
  have hlen : ws.length = ys.length + 1 := by have := congrArg List.length h2; rwa [List.length_map, e, List.length_cons] at this
  have hcnt : ws.length ≤ a.size + 1 := by have := sp_count 10 a.data.toList; rw [← h2, List.length_map, sz_d] at this; exact this
  obtain ⟨n, hn⟩ : ∃ n, n = ys.length := ⟨_, rfl⟩
  rw [← hn] at hlen
  have e1 : wrap64 ((ws.length : Int) - 1) = (n : Int) := by rw [c_wrap _ (by omega) (by omega)]; omega
  have hlt : n < ws.length := by omega
  have hrd : rdOf ByteArray.empty ws (n : Int) = ws[n] := by unfold rdOf; rw [Int.toNat_natCast, List.getD_eq_getElem?_getD, List.getElem?_eq_getElem hlt]; rfl
  have p1 : 0 ≤ (n : Int) := by omega
  have p2 : (n : Int) < (ws.length : Int) := by omega
  have hL : ws.map (·.data.toList) = (ws.map (·.data.toList)).take n ++ [ws[n].data.toList] := by
    conv => lhs; rw [← List.take_append_drop n (ws.map (·.data.toList))]
    rw [List.drop_eq_getElem_cons (by rw [List.length_map]; exact hlt), List.getElem_map, List.drop_of_length_le (by rw [List.length_map]; omega)]
  obtain ⟨k, rfl⟩ : ∃ m, k = m + 1 := ⟨k - 1, by omega⟩
  unfold spec_ReadCuts.f
  rw [h1']
  simp only [Option.bind_some, e1, hrd, if_pos p1, if_pos p2, Lib.toList_data, spec_ReadCuts.j0]
  have key : ∀ ok : Bool, (ok = true ↔ ws[n].data.toList = [] ∧ n ≤ 400) → ∃ r, spec_ReadCuts.l0 k ws [] ok 0 = some r ∧ ((∃ xs, Is a.data.toList xs ∧ r = (xs, 0)) ∨ ((¬ ∃ xs, Is a.data.toList xs) ∧ r = ([], 5))) := by
    intro ok hok
    obtain ⟨r, g1, g2⟩ := specLoop ws n hlen (fun w hw => by have := pieces_size a ws 10 h2 w hw; omega) (by omega) n k 0 [] ok (by omega) (by omega) (by omega) (by simp)
    refine ⟨r, g1, ?_⟩
    rw [List.drop_zero] at g2
    rcases g2 with ⟨xs, y1, y2, y3, y4⟩ | ⟨g3, g4⟩
    · obtain ⟨o1, o2⟩ := hok.1 y3
      left
      refine ⟨xs, ⟨y1, ?_, ?_⟩, by rw [y4]; simp⟩
      · have := congrArg List.length y2
        rw [List.length_take, List.length_map, List.length_map] at this
        omega
      · rw [← text_jn xs y1, ← y2, ← o1, ← hL, h2, sp_join]
    · right
      refine ⟨fun ⟨xs, x1, x2, x3⟩ => g3 ?_, g4⟩
      have hs := text_sp xs x1
      rw [x3, ← h2, hL] at hs
      have hln := congrArg List.length hs
      rw [List.length_append, List.length_append, List.length_singleton, List.length_singleton, List.length_take, List.length_map, List.length_map] at hln
      obtain ⟨b1, b2⟩ := List.append_inj hs (by rw [List.length_take, List.length_map, List.length_map]; omega)
      exact ⟨xs, x1, b1, hok.2 ⟨by simpa using b2, by omega⟩⟩
  by_cases hq : ws[n].data.toList = ([] : List UInt8)
  · rw [if_pos hq]
    refine key _ ⟨fun h => ⟨hq, ?_⟩, fun h => ?_⟩
    · have := of_decide_eq_true h; omega
    · exact decide_eq_true (by have := h.2; omega)
  · rw [if_neg hq]
    exact key false ⟨fun h => (by cases h), fun h => absurd h.1 hq⟩
theorem implJ2 (a : ByteArray) (xs : List S62) (hF : Fit xs) (hl : xs.length ≤ 400) (k : Nat) (hk : 1000 < k) :
    (impl_ReadCuts.j2 (k + 1) a xs = some (xs, 0) ∧ Is a.data.toList xs) ∨ (impl_ReadCuts.j2 (k + 1) a xs = some ([], 5) ∧ ¬ Is a.data.toList xs) := by
  obtain ⟨b, hb, h⟩ := are_t xs (by omega) hF
  have h1 := h k (by omega)
  simp only [impl_ReadCuts.j2, h1, Option.bind_some]
  cases b with
  | false =>
    refine .inr ⟨by simp, fun ⟨q1, q2, _⟩ => ?_⟩
    have := hb.2 ⟨q2, (all_getD xs).2 q1⟩
    cases this
  | true =>
    obtain ⟨_, q2⟩ := hb.1 rfl
    have q1 := (all_getD xs).1 q2
    unfold impl_CutsText.f
    rw [h1]
    simp only [if_true, Option.bind_some, if_pos (show xs.length ≤ 1048576 by omega), Lib.toList_data]
    by_cases e : (xs.flatMap impl_CutsText.line) = a.data.toList
    · rw [if_pos e]
      exact .inl ⟨rfl, q1, hl, e⟩
    · rw [if_neg e]
      exact .inr ⟨rfl, fun h => e h.2.2⟩
theorem short_t (a : ByteArray) (ha : a.size ≤ 1048576) : ∃ v, impl_short.f a = some v ∧ -32768 ≤ v ∧ v ≤ 32767 := by
  unfold impl_short.f impl_number.f
  rw [if_pos ha]
  simp only [Option.bind_some]
  split
  · exact ⟨_, rfl, w16_b _⟩
  · exact ⟨0, rfl, by omega, by omega⟩
theorem short_ok (a : ByteArray) (ha : a.size ≤ 1048576) (v : Int) (h0 : 0 ≤ v) (h1 : v ≤ 32767) (h : a.data.toList = Lib.itoa v) : impl_short.f a = some v := by
  obtain ⟨n, rfl⟩ := Int.eq_ofNat_of_zero_le h0
  rw [Lib.itoa_nonneg] at h
  unfold impl_short.f impl_number.f
  rw [if_pos ha, h, numRes_dec n (by omega)]
  simp only [Option.bind_some]
  rw [w16 _ (by omega) (by omega), if_pos (c_wrap _ (by omega) (by omega))]
theorem parse8 : ∀ n : Fin 8, strconv_ParseInt.res [UInt8.ofNat (48 + n.val)] = ((n.val : Int), none) := by decide
theorem parse_t (a : ByteArray) (ha : a.size ≤ 1048576) : ∃ v e, strconv_ParseInt.f a 10 8 = some (v, e) := by
  unfold strconv_ParseInt.f
  rw [if_pos ha, if_pos rfl, if_pos rfl]
  exact ⟨_, _, rfl⟩
theorem parse_ok (a : ByteArray) (ha : a.size ≤ 1048576) (v : Int) (h0 : 0 ≤ v) (h1 : v ≤ 7) (h : a.data.toList = Lib.itoa v) : strconv_ParseInt.f a 10 8 = some (v, none) := by
  obtain ⟨n, rfl⟩ := Int.eq_ofNat_of_zero_le h0
  rw [Lib.itoa_nonneg, Lib.decDigits, dif_pos (by omega)] at h
  unfold strconv_ParseInt.f
  rw [if_pos ha, if_pos rfl, if_pos rfl, h]
  exact congrArg some (parse8 ⟨n, by omega⟩)
theorem split32 (w : ByteArray) (hw : w.size ≤ 1048576) : ∃ ws, strings_Split.f w ⟨#[32]⟩ = some ws ∧ ws.map (·.data.toList) = sp 32 w.data.toList := by
  unfold strings_Split.f
  rw [if_pos hw, if_pos (by decide)]
  exact ⟨_, rfl, splitB_sp w 32⟩
theorem fit_snoc (xs : List S62) (h : Fit xs) (s : S62) (h0 : -32768 ≤ s.f0 ∧ s.f0 ≤ 32767) (h1 : -32768 ≤ s.f1 ∧ s.f1 ≤ 32767) (h2 : -128 ≤ s.f2 ∧ s.f2 ≤ 127) : Fit (xs ++ [s]) := by
  refine fit_of _ fun x hx => ?_
  rcases List.mem_append.1 hx with hx | hx
  · obtain ⟨i, hi⟩ := List.getElem?_of_mem hx
    have := h i
    rw [List.getD_eq_getElem?_getD, hi] at this
    exact this
  · obtain rfl : x = s := by simpa using hx
    exact ⟨h0, h1, h2⟩
/-- Whatever the text: nothing, or cuts whose text it is. -/
theorem implLoop (a : ByteArray) (x13 : List ByteArray) (hsz : ∀ w ∈ x13, w.size ≤ 1048576) (hx : x13.length ≤ 2000000) (d : Nat) : ∀ (k i : Nat) (acc : List S62), x13.length - i = d → i ≤ x13.length → 2 * d + 2000 < k → Fit acc → acc.length ≤ 400 →
    ∃ r, impl_ReadCuts.l0 k a acc x13 (x13.length : Int) (i : Int) = some r ∧ ((∃ xs, Is a.data.toList xs ∧ r = (xs, 0)) ∨ r = ([], 5)) := by
  have fin : ∀ (k : Nat) (acc : List S62), 1001 < k → Fit acc → acc.length ≤ 400 → ∃ r, impl_ReadCuts.j2 k a acc = some r ∧ ((∃ xs, Is a.data.toList xs ∧ r = (xs, 0)) ∨ r = ([], 5)) := by
    intro k acc hk hF hl
    obtain ⟨k, rfl⟩ : ∃ m, k = m + 1 := ⟨k - 1, by omega⟩
    rcases implJ2 a acc hF hl k (by omega) with ⟨h1, h2⟩ | ⟨h1, _⟩
    · exact ⟨_, h1, .inl ⟨acc, h2, rfl⟩⟩
    · exact ⟨_, h1, .inr rfl⟩
  induction d with
  | zero =>
    intro k i acc hd hi hk hF hl
    obtain ⟨k, rfl⟩ : ∃ m, k = m + 1 := ⟨k - 1, by omega⟩
    simp only [impl_ReadCuts.l0]
    rw [if_neg (by omega)]
    exact fin k acc (by omega) hF hl
  | succ d ih =>
    intro k i acc hd hi hk hF hl
    obtain ⟨k, rfl⟩ : ∃ m, k = m + 1 + 1 := ⟨k - 2, by omega⟩
    have hlt : i < x13.length := by omega
    obtain ⟨w, hw⟩ : ∃ w, w = x13[i] := ⟨_, rfl⟩
    have hrd : rdOf ByteArray.empty x13 (i : Int) = w := by unfold rdOf; rw [Int.toNat_natCast, List.getD_eq_getElem?_getD, List.getElem?_eq_getElem hlt, hw]; rfl
    have hws : w.size ≤ 1048576 := hsz w (by rw [hw]; exact List.getElem_mem hlt)
    obtain ⟨ws, h1, h2⟩ := split32 w hws
    have e1 : wrap64 ((i : Int) + 1) = ((i + 1 : Nat) : Int) := by rw [c_wrap _ (by omega) (by omega)]; omega
    have p1 : (i : Int) < (x13.length : Int) := by omega
    have p2 : 0 ≤ (i : Int) := by omega
    simp only [impl_ReadCuts.l0, if_pos p1, if_pos p2, hrd, h1, Option.bind_some]
    by_cases h0 : a.toList = ([] : List UInt8)
    · rw [if_pos h0]
      exact fin (k + 1) acc (by omega) hF hl
    · rw [if_neg h0]
      by_cases h3 : ws.length = 3
      · match ws, h3, h2 with
        | [p, q, s], _, h2 =>
          have l3 : (([p, q, s] : List ByteArray).length : Int) = 3 := rfl
          rw [if_pos l3]
          have q0 : (0 : Int) < (([p, q, s] : List ByteArray).length : Int) := by simp
          have q1 : (1 : Int) < (([p, q, s] : List ByteArray).length : Int) := by simp
          have q2 : (2 : Int) < (([p, q, s] : List ByteArray).length : Int) := by simp
          have r0 : rdOf ByteArray.empty [p, q, s] 0 = p := rfl
          have r1 : rdOf ByteArray.empty [p, q, s] 1 = q := rfl
          have r2 : rdOf ByteArray.empty [p, q, s] 2 = s := rfl
          have zp := pieces_size w _ 32 h2 p (by simp)
          have zq := pieces_size w _ 32 h2 q (by simp)
          have zs := pieces_size w _ 32 h2 s (by simp)
          simp only [impl_ReadCuts.j1]
          by_cases hf : acc.length = 400
          · have hb : ((acc.length : Int) == 400) = true := by rw [hf]; rfl
            rw [if_pos hb]
            exact ⟨_, rfl, .inr rfl⟩
          · have hb : ¬ ((acc.length : Int) == 400) = true := by rw [beq_iff_eq]; omega
            obtain ⟨v, e, hp⟩ := parse_t s (by omega)
            obtain ⟨v0, hv0, b0⟩ := short_t p (by omega)
            obtain ⟨v1, hv1, b1⟩ := short_t q (by omega)
            simp only [if_neg hb, if_pos q0, if_pos q1, if_pos q2, r0, r1, r2, hp, hv0, hv1, Option.bind_some]
            by_cases he : e.isNone = true
            · rw [if_pos he, if_pos (by omega), e1]
              exact ih k (i + 1) (acc ++ [(⟨v0, v1, IntKind.i8.wrap v⟩ : S62)]) (by omega) (by omega) (by omega) (fit_snoc acc hF _ b0 b1 (w8_b v)) (by rw [List.length_append, List.length_singleton]; omega)
            · rw [if_neg he]
              exact ⟨_, rfl, .inr rfl⟩
      · have l3 : ¬ ((ws.length : Int) = 3) := by omega
        rw [if_neg l3]
        simp only [impl_ReadCuts.j1, if_true]
        exact ⟨_, rfl, .inr rfl⟩
/-- Cuts' own text is read. -/
theorem implOk (a : ByteArray) (xs : List S62) (hI : Is a.data.toList xs) (hne : a.data.toList ≠ []) (x13 : List ByteArray) (hx : x13.map (·.data.toList) = xs.map ln) (hsz : ∀ w ∈ x13, w.size ≤ 1048576) (d : Nat) : ∀ (k i : Nat), xs.length - i = d → i ≤ xs.length → 2 * d + 2000 < k →
    impl_ReadCuts.l0 k a (xs.take i) x13 (x13.length : Int) (i : Int) = some (xs, 0) := by
  have hlen : x13.length = xs.length := by have := congrArg List.length hx; rwa [List.length_map, List.length_map] at this
  have h400 := hI.2.1
  have hF : Fit xs := fit_of xs fun x h => by
    obtain ⟨⟨a, a'⟩, ⟨b, b'⟩, ⟨c, c'⟩⟩ := hI.1 x h
    exact ⟨⟨by omega, by omega⟩, ⟨by omega, by omega⟩, ⟨by omega, by omega⟩⟩
  induction d with
  | zero =>
    intro k i hd hi hk
    obtain ⟨k, rfl⟩ : ∃ m, k = m + 1 + 1 := ⟨k - 2, by omega⟩
    simp only [impl_ReadCuts.l0]
    rw [if_neg (by omega), List.take_of_length_le (by omega)]
    rcases implJ2 a xs hF h400 k (by omega) with ⟨h1, _⟩ | ⟨_, h2⟩
    · exact h1
    · exact absurd hI h2
  | succ d ih =>
    intro k i hd hi hk
    obtain ⟨k, rfl⟩ : ∃ m, k = m + 1 + 1 := ⟨k - 2, by omega⟩
    have hlt : i < x13.length := by omega
    have hlx : i < xs.length := by omega
    obtain ⟨w, hw⟩ : ∃ w, w = x13[i] := ⟨_, rfl⟩
    have hrd : rdOf ByteArray.empty x13 (i : Int) = w := by unfold rdOf; rw [Int.toNat_natCast, List.getD_eq_getElem?_getD, List.getElem?_eq_getElem hlt, hw]; rfl
    have hws : w.size ≤ 1048576 := hsz w (by rw [hw]; exact List.getElem_mem hlt)
    have hwd : w.data.toList = ln xs[i] := by
      have e : (x13.map (·.data.toList))[i]? = (xs.map ln)[i]? := by rw [hx]
      rw [List.getElem?_map, List.getElem?_map, List.getElem?_eq_getElem hlt, List.getElem?_eq_getElem hlx] at e
      rw [hw]; exact Option.some.inj e
    obtain ⟨ws, h1, h2⟩ := split32 w hws
    have hP := hI.1 _ (List.getElem_mem hlx)
    rw [hwd, ln_sp _ hP] at h2
    have e1 : wrap64 ((i : Int) + 1) = ((i + 1 : Nat) : Int) := by rw [c_wrap _ (by omega) (by omega)]; omega
    have p1 : (i : Int) < (x13.length : Int) := by omega
    have p2 : 0 ≤ (i : Int) := by omega
    have h0 : ¬ a.toList = ([] : List UInt8) := by rw [Lib.toList_data]; exact hne
    have h3 : ws.length = 3 := by have := congrArg List.length h2; rwa [List.length_map] at this
    simp only [impl_ReadCuts.l0, if_pos p1, if_pos p2, hrd, h1, Option.bind_some, if_neg h0]
    match ws, h3, h2, h1 with
    | [p, q, s], _, h2, h1 =>
      have h2' : [p.data.toList, q.data.toList, s.data.toList] = [Lib.itoa (xs[i]).f0, Lib.itoa (xs[i]).f1, Lib.itoa (xs[i]).f2] := h2
      simp only [List.cons.injEq, and_true] at h2'
      obtain ⟨g0, g1, g2⟩ := h2'
      have hz : [p, q, s].map (·.data.toList) = sp 32 w.data.toList := by rw [hwd, ln_sp _ hP]; exact h2
      have zp := pieces_size w _ 32 hz p (by simp)
      have zq := pieces_size w _ 32 hz q (by simp)
      have zs := pieces_size w _ 32 hz s (by simp)
      obtain ⟨⟨a0, a0'⟩, ⟨b0, b0'⟩, ⟨c0, c0'⟩⟩ := hP
      have l3 : (([p, q, s] : List ByteArray).length : Int) = 3 := rfl
      have q0 : (0 : Int) < (([p, q, s] : List ByteArray).length : Int) := by simp
      have q1 : (1 : Int) < (([p, q, s] : List ByteArray).length : Int) := by simp
      have q2 : (2 : Int) < (([p, q, s] : List ByteArray).length : Int) := by simp
      have r0 : rdOf ByteArray.empty [p, q, s] 0 = p := rfl
      have r1 : rdOf ByteArray.empty [p, q, s] 1 = q := rfl
      have r2 : rdOf ByteArray.empty [p, q, s] 2 = s := rfl
      have lt : (xs.take i).length = i := by rw [List.length_take]; omega
      have hb : ¬ (((xs.take i).length : Int) == 400) = true := by rw [beq_iff_eq, lt]; omega
      have v0 := short_ok p (by omega) (xs[i]).f0 a0 (by omega) g0
      have v1 := short_ok q (by omega) (xs[i]).f1 b0 (by omega) g1
      have v2 := parse_ok s (by omega) (xs[i]).f2 c0 c0' g2
      rw [if_pos l3]
      simp only [impl_ReadCuts.j1, if_neg hb, if_pos q0, if_pos q1, if_pos q2, r0, r1, r2, v0, v1, v2, Option.bind_some, Option.isNone_none, if_true, e1]
      rw [if_pos (by rw [lt]; omega), w8 _ (by omega) (by omega)]
      have := ih k (i + 1) (by omega) (by omega) (by omega)
      rw [List.take_succ_eq_append_getElem hlx] at this
      exact this
theorem split10 (w : ByteArray) (hw : w.size ≤ 1048576) : ∃ ws, strings_Split.f w ⟨#[10]⟩ = some ws ∧ ws.map (·.data.toList) = sp 10 w.data.toList := by
  unfold strings_Split.f
  rw [if_pos hw, if_pos (by decide)]
  exact ⟨_, rfl, splitB_sp w 10⟩
theorem jn_snoc (c : UInt8) : ∀ (l : List (List UInt8)), l ≠ [] → jn c (l ++ [[]]) = jn c l ++ [c]
  | [], h => absurd rfl h
  | [x], _ => by simp [jn]
  | x :: y :: l, _ => by
    have := jn_snoc c (y :: l) (by simp)
    show x ++ c :: jn c ((y :: l) ++ [[]]) = (x ++ c :: jn c (y :: l)) ++ [c]
    rw [this]; simp
theorem sp_jn (c : UInt8) : ∀ (l : List (List UInt8)), l ≠ [] → (∀ x ∈ l, c ∉ x) → sp c (jn c l) = l
  | [], h, _ => absurd rfl h
  | [x], _, h => by rw [jn, sp_one c x (h x (by simp))]
  | x :: y :: l, _, h => by
    show sp c (x ++ c :: jn c (y :: l)) = _
    rw [sp_app c x (h x (by simp)), sp_jn c (y :: l) (by simp) (fun z hz => h z (by simp [hz]))]
theorem trim_snoc (l : List UInt8) : Lib.trimSuffix (l ++ [10]) [10] = l := by
  unfold Lib.trimSuffix
  have h : Lib.hasSuffix (l ++ [10]) [10] = true := by
    unfold Lib.hasSuffix
    simp
  rw [if_pos h, List.length_append, List.length_singleton, Nat.add_sub_cancel, List.take_left]
theorem implAll (a : ByteArray) (ha : a.size ≤ 1048576) (k : Nat) (hk : 4000000 < k) : ∃ r, impl_ReadCuts.f k a = some r ∧ ((∃ xs, Is a.data.toList xs ∧ r = (xs, 0)) ∨ ((¬ ∃ xs, Is a.data.toList xs) ∧ r = ([], 5))) := by
  obtain ⟨t, ht⟩ : ∃ t : ByteArray, t = ⟨(Lib.trimSuffix a.data.toList [10]).toArray⟩ := ⟨_, rfl⟩
  have htd : t.data.toList = Lib.trimSuffix a.data.toList [10] := by rw [ht]
  have hts : t.size ≤ a.size := by rw [← sz_d, ← sz_d, htd]; exact Lib.trimSuffix_le _ _
  have e0 : strings_TrimSuffix.f a ⟨#[10]⟩ = some t := by unfold strings_TrimSuffix.f; rw [if_pos ha, ht]
  obtain ⟨x13, h1, h2⟩ := split10 t (by omega)
  have hsz : ∀ w ∈ x13, w.size ≤ 1048576 := fun w hw => by have := pieces_size t x13 10 h2 w hw; omega
  have hcnt : x13.length ≤ t.size + 1 := by have := sp_count 10 t.data.toList; rw [← h2, List.length_map, sz_d] at this; exact this
  unfold impl_ReadCuts.f
  rw [e0]
  simp only [Option.bind_some, h1]
  by_cases hI : ∃ xs, Is a.data.toList xs
  · obtain ⟨xs, hI⟩ := hI
    refine ⟨(xs, 0), ?_, .inl ⟨xs, hI, rfl⟩⟩
    by_cases hne : a.data.toList = []
    · -- no cuts at all
      have hxs : xs = [] := is_one _ xs [] hI ⟨by simp, by simp, by rw [hne]; rfl⟩
      subst hxs
      have hd : t.data.toList = [] := by rw [htd, hne]; rfl
      rw [hd] at h2
      have hl1 : x13.length = 1 := by have := congrArg List.length h2; rwa [List.length_map] at this
      match x13, hl1, h2, h1, hsz with
      | [w], _, h2, h1, hsz =>
        obtain ⟨ws, g1, _⟩ := split32 w (hsz w (by simp))
        obtain ⟨k, rfl⟩ : ∃ m, k = m + 1 + 1 := ⟨k - 2, by omega⟩
        have p1 : (0 : Int) < (([w] : List ByteArray).length : Int) := by simp
        have hrd : rdOf ByteArray.empty [w] 0 = w := rfl
        have h0 : a.toList = ([] : List UInt8) := by rw [Lib.toList_data]; exact hne
        simp only [impl_ReadCuts.l0, if_pos p1, hrd, g1, Option.bind_some, if_pos h0]
        rw [if_pos (by omega)]
        rcases implJ2 a [] (fit_of [] (by simp)) (by simp) k (by omega) with ⟨g, _⟩ | ⟨_, g⟩
        · exact g
        · exact absurd hI g
    · have hxs : xs ≠ [] := fun e => hne (by rw [← hI.2.2, e]; rfl)
      have hmn : xs.map ln ≠ [] := by simpa using hxs
      have hT : a.data.toList = jn 10 (xs.map ln) ++ [10] := by rw [← hI.2.2, ← text_jn xs hI.1, jn_snoc 10 _ hmn]
      have hd : t.data.toList = jn 10 (xs.map ln) := by rw [htd, hT, trim_snoc]
      have hx : x13.map (·.data.toList) = xs.map ln := by
        rw [h2, hd, sp_jn 10 _ hmn]
        intro x hx
        obtain ⟨y, hy, rfl⟩ := List.mem_map.1 hx
        exact ln_no y (hI.1 y hy)
      have := implOk a xs hI hne x13 hx hsz xs.length k 0 (by omega) (by omega) (by have := hI.2.1; omega)
      rw [List.take_zero] at this
      exact this
  · obtain ⟨r, g1, g2⟩ := implLoop a x13 hsz (by omega) x13.length k 0 [] (by omega) (by omega) (by omega) (fit_of [] (by simp)) (by simp)
    refine ⟨r, g1, .inr ⟨hI, ?_⟩⟩
    rcases g2 with ⟨xs, q, _⟩ | q
    · exact absurd ⟨xs, q⟩ hI
    · exact q
theorem FnExactReadCuts (a0 : ByteArray) (w0 : a0.size ≤ 140737488351232) : ∃ k, laws_FnExactReadCuts.f k a0 = some true := by
  unfold laws_FnExactReadCuts.f
  by_cases h : (a0.size : Int) > 1048576
  · exact ⟨1, by rw [if_pos h]⟩
  · have ha : a0.size ≤ 1048576 := by omega
    obtain ⟨k, hk⟩ : ∃ k, k = 4000100 := ⟨_, rfl⟩
    refine ⟨k + 1 + 1, ?_⟩
    have main : ∃ xs v, xs.length ≤ 400 ∧ (∀ k, 4000000 < k → spec_ReadCuts.f k a0 = some (xs, v)) ∧ (∀ k, 4000000 < k → impl_ReadCuts.f k a0 = some (xs, v)) := by
      by_cases hI : ∃ xs, Is a0.data.toList xs
      · obtain ⟨xs, hI⟩ := hI
        refine ⟨xs, 0, hI.2.1, fun k hk => ?_, fun k hk => ?_⟩
        · obtain ⟨r, g1, g2⟩ := specAll a0 ha k hk
          rcases g2 with ⟨ys, q, e⟩ | ⟨q, _⟩
          · rw [g1, e, is_one _ ys xs q hI]
          · exact absurd ⟨xs, hI⟩ q
        · obtain ⟨r, g1, g2⟩ := implAll a0 ha k hk
          rcases g2 with ⟨ys, q, e⟩ | ⟨q, _⟩
          · rw [g1, e, is_one _ ys xs q hI]
          · exact absurd ⟨xs, hI⟩ q
      · refine ⟨[], 5, by simp, fun k hk => ?_, fun k hk => ?_⟩
        · obtain ⟨r, g1, g2⟩ := specAll a0 ha k hk
          rcases g2 with ⟨ys, q, _⟩ | ⟨_, e⟩
          · exact absurd ⟨ys, q⟩ hI
          · rw [g1, e]
        · obtain ⟨r, g1, g2⟩ := implAll a0 ha k hk
          rcases g2 with ⟨ys, q, _⟩ | ⟨_, e⟩
          · exact absurd ⟨ys, q⟩ hI
          · rw [g1, e]
    obtain ⟨xs, v, hl, m1, m2⟩ := main
    have q1 := eqCutS_t xs (by omega) (k + 1 + 1) (by omega)
    have q2 := eqCutS_t xs (by omega) (k + 1) (by omega)
    have mk1 : laws_markCutS.f (k + 1) xs 1 = some (1 + 3 * (xs.length : Int), mk 1 xs) := by
      unfold laws_markCutS.f
      have := mark_l xs.length (k + 1) xs 1 0 (by omega) (by omega) (by omega) (by omega) (by omega) (by omega)
      rw [List.take_zero, List.drop_zero, List.nil_append] at this
      exact this
    have hd : ∀ k, 1000 < k → laws_heldCutS.f k (mk 1 xs) 1 = some (1 + 3 * (xs.length : Int)) := fun k hk => by
      unfold laws_heldCutS.f
      exact held_l xs k (mk 1 xs) 1 0 (by rw [List.drop_zero]) (by omega) (by rw [mk_len]; omega) (by omega) (by omega) (by omega)
    rw [if_neg h, m1 (k + 1 + 1) (by omega), m2 (k + 1 + 1) (by omega)]
    have nb : (v != v) = false := by simp
    simp only [Option.bind_some, q1, if_true, laws_FnExactReadCuts.j0, nb, Bool.false_eq_true, if_false, mk1, hd (k + 1) (by omega), m2 (k + 1) (by omega), q2, laws_FnExactReadCuts.j1, hd k (by omega)]
    have hn : ¬ (1 + 3 * (xs.length : Int) < 0) := by omega
    simp only [if_neg hn]

end Go.Proofs.YtcfjdpegllnhfaaDoor.Pure
