/- The pure statement of the law FnExactReadFollower is proved: for every input that the law speaks of, the law's function answers true. No conditions beyond the statement's own. -/
import Derived.Test.YtcfjdpegllnhfaaDoorFFnExactReadFollowerx
import Derived.Lib.ItoaMem
namespace Go.Proofs.YtcfjdpegllnhfaaDoor.Pure
open Go.RowKit Go.Proofs.YtcfjdpegllnhfaaDoor.FFnExactReadFollower Go.Proofs.YtcfjdpegllnhfaaDoorW.PrintWords Go.Proofs.YtcfjdpegllnhfaaDoorW.PrintLast
set_option linter.unusedVariables false

theorem b_wrap (x : Int) (h : -9223372036854775808 ≤ x) (h' : x ≤ 9223372036854775807) : wrap64 x = x := by
  unfold wrap64; omega

theorem b_rd (l : List Int) (i : Nat) (h : i < l.length) : rd l (i : Int) = l[i] := by
  unfold rd; rw [List.getD_eq_getElem?_getD, Int.toNat_natCast, List.getElem?_eq_getElem h]; rfl

theorem b_take (l : List Int) (i : Nat) (h : i < l.length) : l.take (i + 1) = l.take i ++ [l[i]] := by
  rw [List.take_succ_eq_append_getElem h]

theorem b_set (x : List Int) (i : Nat) (v : Int) (h : i < x.length) : (x.set i v).take (i + 1) = x.take i ++ [v] := by
  have h' : i < (x.set i v).length := by rw [List.length_set]; exact h
  rw [List.take_succ_eq_append_getElem h', List.getElem_set_self, List.take_set_of_le (Nat.le_refl i)]
theorem impl_inRange_t (a b c : Int) : impl_inRange.f a b c = some (decide (b ≤ a ∧ a ≤ c)) := by
  unfold impl_inRange.f
  by_cases h : b ≤ a
  · rw [if_pos h]; simp [h]
  · rw [if_neg h]; simp [h]
theorem spec_l00In_t (a b c : Int) : spec_l00In.f a b c = some (decide (b ≤ a ∧ a ≤ c)) := by
  unfold spec_l00In.f
  by_cases h : b ≤ a
  · rw [if_pos h]; simp [h]
  · rw [if_neg h]; simp [h]
theorem sz_l (l : List UInt8) : (⟨l.toArray⟩ : ByteArray).size = l.length := by simp [ByteArray.size]
theorem app_l (l : List UInt8) (d : UInt8) : (⟨l.toArray⟩ : ByteArray) ++ (⟨#[d]⟩ : ByteArray) = ⟨(l ++ [d]).toArray⟩ := by
  apply ByteArray.ext
  simp [ByteArray.data_append]
theorem dec_len : ∀ (k n : Nat), n < 10 ^ (k + 1) → (Lib.decDigits n).length ≤ k + 1
  | 0, n, h => by rw [Lib.decDigits, dif_pos (by simpa using h)]; simp
  | k + 1, n, h => by
    rw [Lib.decDigits]
    split
    · simp
    · rw [List.length_append]
      have := dec_len k (n / 10) (by rw [Nat.pow_succ] at h; omega)
      simp only [List.length_singleton]
      omega
theorem itoa_len (k : Nat) (a : Int) (h0 : 0 ≤ a) (h1 : a < 10 ^ (k + 1)) : (Lib.itoa a).length ≤ k + 1 := by
  obtain ⟨n, rfl⟩ := Int.eq_ofNat_of_zero_le h0
  rw [Lib.itoa_nonneg]
  exact dec_len k n (by exact_mod_cast h1)
/-- A text parted at each such byte. -/
def sp (c : UInt8) : List UInt8 → List (List UInt8)
  | [] => [[]]
  | b :: l => if b = c then [] :: sp c l else match sp c l with | [] => [[b]] | x :: xs => (b :: x) :: xs
theorem sp_ne (c : UInt8) : ∀ l, ∃ x xs, sp c l = x :: xs
  | [] => ⟨_, _, rfl⟩
  | b :: l => by
    unfold sp
    by_cases h : b = c
    · rw [if_pos h]; exact ⟨_, _, rfl⟩
    · rw [if_neg h]
      obtain ⟨x, xs, e⟩ := sp_ne c l
      rw [e]; exact ⟨_, _, rfl⟩
theorem sp_eq (c : UInt8) (l : List UInt8) : sp c (c :: l) = [] :: sp c l := by rw [sp, if_pos rfl]
theorem sp_cons (c b : UInt8) (l : List UInt8) (h : b ≠ c) {x : List UInt8} {xs : List (List UInt8)} (e : sp c l = x :: xs) : sp c (b :: l) = (b :: x) :: xs := by rw [sp, if_neg h, e]
/-- The parts put together again. -/
def jn (c : UInt8) : List (List UInt8) → List UInt8
  | [] => []
  | [x] => x
  | x :: y :: xs => x ++ c :: jn c (y :: xs)
theorem jn_cons (c b : UInt8) (x : List UInt8) (xs : List (List UInt8)) : jn c ((b :: x) :: xs) = b :: jn c (x :: xs) := by
  cases xs <;> simp [jn]
theorem sp_join (c : UInt8) : ∀ l, jn c (sp c l) = l
  | [] => rfl
  | b :: l => by
    obtain ⟨x, xs, e⟩ := sp_ne c l
    have ih := sp_join c l
    by_cases h : b = c
    · subst h
      rw [sp_eq, e, jn, List.nil_append, ← e, ih]
    · rw [sp_cons c b l h e, jn_cons, ← e, ih]
theorem sp_app (c : UInt8) : ∀ (a : List UInt8), c ∉ a → ∀ r, sp c (a ++ c :: r) = a :: sp c r
  | [], _, r => by rw [List.nil_append, sp_eq]
  | b :: a, h, r => by
    have h1 : b ≠ c := fun e => h (by simp [e])
    have h2 : c ∉ a := fun e => h (by simp [e])
    rw [List.cons_append, sp_cons c b _ h1 (sp_app c a h2 r)]
theorem sp_one (c : UInt8) : ∀ (a : List UInt8), c ∉ a → sp c a = [a]
  | [], _ => rfl
  | b :: a, h => by
    have h1 : b ≠ c := fun e => h (by simp [e])
    have h2 : c ∉ a := fun e => h (by simp [e])
    rw [sp_cons c b _ h1 (sp_one c a h2)]
theorem sp_part (c : UInt8) : ∀ (l : List UInt8) (x : List UInt8), x ∈ sp c l → c ∉ x
  | [], x, h => by
    have : x = [] := by simpa [sp] using h
    rw [this]; simp
  | b :: l, x, h => by
    obtain ⟨y, ys, e⟩ := sp_ne c l
    have ih := sp_part c l
    by_cases hb : b = c
    · subst hb
      rw [sp_eq] at h
      rcases List.mem_cons.1 h with rfl | h
      · simp
      · exact ih x h
    · rw [sp_cons c b l hb e] at h
      rw [e] at ih
      rcases List.mem_cons.1 h with rfl | h
      · intro q
        rcases List.mem_cons.1 q with q | q
        · exact hb q.symm
        · exact ih y (by simp) q
      · exact ih x (by simp [h])
/-- The library's split at one byte. -/
theorem splitK_sp (c : UInt8) : ∀ (n : Nat) (s : List UInt8), s.length ≤ n → ∀ fuel, s.length < fuel → Lib.splitK [c] 0 (Lib.countFrom [c] fuel s) s = sp c s
  | n, s, hn, fuel, hf => by
    obtain ⟨fuel, rfl⟩ : ∃ m, fuel = m + 1 := ⟨fuel - 1, by omega⟩
    have e1 := Lib.index_one s c
    by_cases h : Lib.index s [c] = -1
    · have h' : Lib.indexByte s c = -1 := by rw [← e1]; exact h
      have hno : c ∉ s := fun hc => by
        obtain ⟨k, hk⟩ := List.getElem?_of_mem hc
        exact Lib.indexByte_none h' k hk
      rw [Lib.countFrom, if_pos (beq_iff_eq.2 h), Lib.splitK, sp_one c s hno]
    · obtain ⟨i, hi⟩ : ∃ i : Nat, Lib.index s [c] = i := ⟨(Lib.index s [c]).toNat, by have := Lib.index_ge s [c]; omega⟩
      have h' : Lib.indexByte s c = (i : Int) := by rw [← e1]; exact hi
      obtain ⟨g1, g2⟩ := Lib.indexByte_some h'
      have hlt : i < s.length := (List.getElem?_eq_some_iff.1 g1).1
      have hb : ¬ (Lib.index s [c] == -1) = true := fun e => h (beq_iff_eq.1 e)
      have ht : (Lib.index s [c]).toNat = i := by omega
      rw [Lib.countFrom, if_neg hb, ht, Nat.add_comm 1, Lib.splitK, if_neg hb, ht, Nat.add_zero, List.length_singleton]
      have hd : (s.drop (i + 1)).length < fuel := by rw [List.length_drop]; omega
      have hd2 : (s.drop (i + 1)).length ≤ n - 1 := by rw [List.length_drop]; omega
      have hpos : 1 ≤ n := by omega
      match n, hpos with
      | n + 1, _ =>
        rw [splitK_sp c n (s.drop (i + 1)) (by omega) fuel hd]
        have hs : s = s.take i ++ c :: s.drop (i + 1) := by
          have e2 : s[i] = c := (List.getElem?_eq_some_iff.1 g1).2
          conv => lhs; rw [← List.take_append_drop i s, List.drop_eq_getElem_cons hlt, e2]
        have hno : c ∉ s.take i := fun hc => by
          obtain ⟨k, hk⟩ := List.getElem?_of_mem hc
          have hk1 := (List.getElem?_eq_some_iff.1 hk).1
          rw [List.length_take] at hk1
          rw [List.getElem?_take_of_lt (by omega)] at hk
          exact g2 k (by omega) hk
        conv => rhs; rw [hs]
        rw [sp_app c _ hno]
theorem splitB_sp (s : ByteArray) (c : UInt8) : (Lib.splitB ⟨#[c]⟩ 0 (Lib.countB s ⟨#[c]⟩) s).map (·.data.toList) = sp c s.data.toList := by
  rw [Lib.splitB_data]
  exact splitK_sp c s.data.toList.length s.data.toList (Nat.le_refl _) _ (by omega)
theorem sz_d (s : ByteArray) : s.data.toList.length = s.size := Array.length_toList
theorem bt_l (s : ByteArray) (i : Nat) (h : i < s.data.toList.length) : bt s (i : Int) = ((s.data.toList[i]).toNat : Int) := by
  have h' : i < s.size := by rw [← sz_d]; exact h
  unfold bt
  rw [Int.toNat_natCast, dif_pos h']
  rfl
/-- The model's split. -/
theorem l01Split_l (a : ByteArray) (ha : a.size ≤ 1048576) (c : UInt8) (d : Nat) : ∀ (k b i : Nat) (acc : List ByteArray), a.size - i = d → d < k → b ≤ i → i ≤ a.size → acc.length ≤ i →
    ∃ r, spec_l01Split.l0 k a (c.toNat : Int) acc (b : Int) (i : Int) = some r ∧ ∀ x xs, sp c (a.data.toList.drop i) = x :: xs → r.map (·.data.toList) = acc.map (·.data.toList) ++ (((a.data.toList.drop b).take (i - b) ++ x) :: xs) := by
  induction d with
  | zero =>
    intro k b i acc hd hk hb hi hacc
    obtain ⟨k, rfl⟩ : ∃ m, k = m + 1 := ⟨k - 1, by omega⟩
    simp only [spec_l01Split.l0]
    rw [if_neg (by omega), if_pos (by omega), if_pos (by omega), if_pos (by omega)]
    refine ⟨_, rfl, fun x xs h => ?_⟩
    rw [List.drop_of_length_le (by rw [sz_d]; omega)] at h
    obtain ⟨rfl, rfl⟩ : x = [] ∧ xs = [] := by simpa [sp, eq_comm] using h
    rw [List.map_append, List.map_singleton, Lib.extract_data, Int.toNat_natCast, List.append_nil]
    have e : i = a.size := by omega
    rw [e]
  | succ d ih =>
    intro k b i acc hd hk hb hi hacc
    obtain ⟨k, rfl⟩ : ∃ m, k = m + 1 := ⟨k - 1, by omega⟩
    have hlt : i < a.data.toList.length := by rw [sz_d]; omega
    have w : wrap64 ((i : Int) + 1) = ((i + 1 : Nat) : Int) := by rw [b_wrap _ (by omega) (by omega)]; omega
    have p1 : (i : Int) < (a.size : Int) := by omega
    have p2 : 0 ≤ (i : Int) := by omega
    have hdr : a.data.toList.drop i = a.data.toList[i] :: a.data.toList.drop (i + 1) := List.drop_eq_getElem_cons hlt
    simp only [spec_l01Split.l0, w]
    rw [if_pos p1, if_pos p2, bt_l a i hlt]
    by_cases h : a.data.toList[i] = c
    · rw [if_pos (by rw [h]), if_pos (by omega), if_pos (by omega), if_pos (by omega), if_pos (by omega)]
      obtain ⟨r, h1, h2⟩ := ih k (i + 1) (i + 1) (acc ++ [a.extract (b : Int).toNat (i : Int).toNat]) (by omega) (by omega) (by omega) (by omega) (by rw [List.length_append, List.length_singleton]; omega)
      refine ⟨r, h1, fun x xs hs => ?_⟩
      rw [hdr, h, sp_eq] at hs
      obtain ⟨y, ys, e⟩ := sp_ne c (a.data.toList.drop (i + 1))
      obtain ⟨rfl, rfl⟩ := List.cons.inj hs
      rw [h2 y ys e, e, List.map_append, List.map_singleton, Lib.extract_data, Int.toNat_natCast, Int.toNat_natCast, Nat.sub_self, List.take_zero, List.nil_append, List.append_nil, List.append_assoc]
      rfl
    · have hne : ¬ ((a.data.toList[i].toNat : Int) = (c.toNat : Int)) := fun e => h (UInt8.toNat_inj.1 (by omega))
      rw [if_neg hne]
      obtain ⟨r, h1, h2⟩ := ih k b (i + 1) acc (by omega) (by omega) (by omega) (by omega) (by omega)
      refine ⟨r, h1, fun x xs hs => ?_⟩
      obtain ⟨y, ys, e⟩ := sp_ne c (a.data.toList.drop (i + 1))
      rw [hdr, sp_cons c _ _ h e] at hs
      obtain ⟨rfl, rfl⟩ := List.cons.inj hs
      rw [h2 y ys e]
      have e3 : i + 1 - b = (i - b) + 1 := by omega
      have hlt2 : i - b < (a.data.toList.drop b).length := by rw [List.length_drop]; omega
      rw [e3, List.take_succ_eq_append_getElem hlt2, List.getElem_drop, List.append_assoc]
      congr 3
      simp only [show b + (i - b) = i by omega]
      rfl
theorem l01Split_t (a : ByteArray) (ha : a.size ≤ 1048576) (c : UInt8) (k : Nat) (hk : a.size < k) : ∃ r, spec_l01Split.f k a (c.toNat : Int) = some r ∧ r.map (·.data.toList) = sp c a.data.toList := by
  obtain ⟨r, h1, h2⟩ := l01Split_l a ha c a.size k 0 0 [] (by omega) hk (Nat.le_refl _) (by omega) (by simp)
  obtain ⟨x, xs, e⟩ := sp_ne c a.data.toList
  refine ⟨r, h1, ?_⟩
  rw [h2 x xs (by rw [List.drop_zero]; exact e), e]
  simp
def dig (b : UInt8) : Prop := 48 ≤ b.toNat ∧ b.toNat ≤ 57
/-- What digits spell, behind acc. -/
def spell (acc : Nat) (l : List UInt8) : Nat := l.foldl (fun a b => 10 * a + (b.toNat - 48)) acc
theorem spell_nil (acc : Nat) : spell acc [] = acc := rfl
theorem spell_cons (acc : Nat) (b : UInt8) (l : List UInt8) : spell acc (b :: l) = spell (10 * acc + (b.toNat - 48)) l := by unfold spell; rw [List.foldl_cons]
theorem val_snoc (l : List UInt8) (acc : Nat) (b : UInt8) : spell acc (l ++ [b]) = 10 * spell acc l + (b.toNat - 48) := by unfold spell; rw [List.foldl_append, List.foldl_cons, List.foldl_nil]
theorem val_ge : ∀ (l : List UInt8) (acc : Nat), acc ≤ spell acc l
  | [], _ => Nat.le_refl _
  | b :: l, acc => by rw [spell_cons]; have := val_ge l (10 * acc + (b.toNat - 48)); omega
/-- A number's text. -/
def good (l : List UInt8) : Prop := l ≠ [] ∧ l.length ≤ 9 ∧ (l.head? = some 48 → l.length = 1) ∧ ∀ b ∈ l, dig b
theorem dig_u (b : UInt8) (h : dig b) : UInt8.ofNat (48 + (b.toNat - 48)) = b := by
  unfold dig at h
  rw [show 48 + (b.toNat - 48) = b.toNat by omega]
  exact UInt8.ofNat_toNat
theorem dec_val : ∀ (n : Nat) (l : List UInt8), l.length = n → l ≠ [] → (∀ b ∈ l, dig b) → l.head? ≠ some 48 → Lib.decDigits (spell 0 l) = l ∧ 0 < spell 0 l
  | 0, l, hn, h0, _, _ => absurd (List.length_eq_zero_iff.1 hn) h0
  | n + 1, l, hn, h0, hd, hh => by
    obtain ⟨m, b, rfl⟩ : ∃ m b, l = m ++ [b] := ⟨l.dropLast, l.getLast h0, (List.dropLast_concat_getLast h0).symm⟩
    have hb : dig b := hd b (by simp)
    have hb' := hb
    unfold dig at hb'
    rw [val_snoc]
    by_cases hm : m = []
    · subst hm
      have hne : b ≠ 48 := fun e => hh (by simp [e])
      have hne' : b.toNat ≠ 48 := fun e => hne (UInt8.toNat_inj.1 e)
      have e : 10 * spell 0 [] + (b.toNat - 48) = b.toNat - 48 := by show 10 * 0 + _ = _; omega
      rw [e]
      refine ⟨?_, by omega⟩
      rw [Lib.decDigits, dif_pos (by omega), dig_u b hb]
      rfl
    · have ih := dec_val n m (by rw [List.length_append, List.length_singleton] at hn; omega) hm (fun x hx => hd x (by simp [hx])) (by
        intro q
        apply hh
        cases m with
        | nil => exact absurd rfl hm
        | cons x m => simpa using q)
      refine ⟨?_, by omega⟩
      rw [Lib.decDigits, dif_neg (by omega)]
      have e1 : (10 * spell 0 m + (b.toNat - 48)) / 10 = spell 0 m := by omega
      have e2 : (10 * spell 0 m + (b.toNat - 48)) % 10 = b.toNat - 48 := by omega
      rw [e1, e2, ih.1, dig_u b hb]
theorem good_dec (l : List UInt8) (h : good l) : Lib.decDigits (spell 0 l) = l := by
  obtain ⟨h0, h1, h2, h3⟩ := h
  by_cases hh : l.head? = some 48
  · have := h2 hh
    match l, this with
    | [b], _ =>
      obtain rfl : b = 48 := by simpa using hh
      show Lib.decDigits (10 * 0 + ((48 : UInt8).toNat - 48)) = _
      rw [Lib.decDigits]
      rfl
  · exact (dec_val l.length l rfl h0 h3 hh).1
theorem dd : ∀ n : Nat, (∀ b ∈ Lib.decDigits n, dig b) ∧ spell 0 (Lib.decDigits n) = n ∧ Lib.decDigits n ≠ [] ∧ (0 < n → (Lib.decDigits n).head? ≠ some 48)
  | n => by
    have one : ∀ m, m < 10 → (UInt8.ofNat (48 + m)).toNat = 48 + m := fun m hm => by rw [UInt8.toNat_ofNat']; omega
    by_cases h : n < 10
    · rw [Lib.decDigits, dif_pos h]
      refine ⟨fun b hb => ?_, ?_, by simp, fun h0 q => ?_⟩
      · obtain rfl : b = UInt8.ofNat (48 + n) := by simpa using hb
        unfold dig; rw [one n h]; omega
      · show 10 * 0 + ((UInt8.ofNat (48 + n)).toNat - 48) = n
        rw [one n h]; omega
      · have q' : UInt8.ofNat (48 + n) = 48 := Option.some.inj q
        have := congrArg UInt8.toNat q'
        rw [one n h] at this
        have e : (48 : UInt8).toNat = 48 := rfl
        omega
    · obtain ⟨h1, h2, h3, h4⟩ := dd (n / 10)
      rw [Lib.decDigits, dif_neg h]
      refine ⟨fun b hb => ?_, ?_, by simp, fun h0 q => ?_⟩
      · rcases List.mem_append.1 hb with hb | hb
        · exact h1 b hb
        · obtain rfl : b = UInt8.ofNat (48 + n % 10) := by simpa using hb
          unfold dig; rw [one _ (by omega)]; omega
      · rw [val_snoc, h2, one _ (by omega)]; omega
      · apply h4 (by omega)
        cases hq : Lib.decDigits (n / 10) with
        | nil => exact absurd hq h3
        | cons x m => rw [hq] at q; simpa using q
termination_by n => n
decreasing_by omega
theorem dec_good (n : Nat) (h : n < 1000000000) : good (Lib.decDigits n) := by
  obtain ⟨h1, h2, h3, h4⟩ := dd n
  refine ⟨h3, dec_len 8 n (by omega), fun q => ?_, h1⟩
  by_cases h0 : 0 < n
  · exact absurd q (h4 h0)
  · obtain rfl : n = 0 := by omega
    rw [Lib.decDigits, dif_pos (by decide)]; rfl
theorem good_val (l : List UInt8) (h : good l) : spell 0 l < 1000000000 := by
  have key : ∀ (l : List UInt8) (acc i : Nat), (∀ b ∈ l, dig b) → acc < 10 ^ i → spell acc l < 10 ^ (i + l.length) := by
    intro l
    induction l with
    | nil => intro acc i _ h; exact h
    | cons b l ih =>
      intro acc i hd h
      have hb := hd b (by simp)
      unfold dig at hb
      have e : i + (b :: l).length = (i + 1) + l.length := by rw [List.length_cons]; omega
      rw [spell_cons, e]
      exact ih _ (i + 1) (fun x hx => hd x (by simp [hx])) (by rw [Nat.pow_succ]; omega)
  have := key l 0 0 h.2.2.2 (by decide)
  have h9 : 10 ^ (0 + l.length) ≤ 10 ^ 9 := Nat.pow_le_pow_right (by decide) (by have := h.2.1; omega)
  have e9 : (10 : Nat) ^ 9 = 1000000000 := by decide
  omega
theorem parseM_dig (M : Nat) (hM : 1000000000000000000 ≤ M) : ∀ (l : List UInt8) (acc : Nat), (∀ b ∈ l, dig b) → spell acc l < 1000000000000000000 → Lib.parseUintM M acc l = .ok (spell acc l)
  | [], acc, _, _ => rfl
  | b :: l, acc, hd, hv => by
    have hb := hd b (by simp)
    unfold dig at hb
    rw [spell_cons] at hv ⊢
    have hg := val_ge l (10 * acc + (b.toNat - 48))
    have e : acc * 10 + (b.toNat - 48) = 10 * acc + (b.toNat - 48) := by omega
    rw [Lib.parseUintM, if_pos hb, if_neg (by omega), if_neg (by omega), e]
    exact parseM_dig M hM l _ (fun x hx => hd x (by simp [hx])) hv
theorem parseB_dec (B : Nat) (hB : 1000000000000000000 ≤ 2 ^ B - 1) (hB2 : 1000000000000000000 ≤ 2 ^ (B - 1)) (n : Nat) (h : n < 1000000000) : Lib.parseIntB B (Lib.decDigits n) = .ok (n : Int) := by
  obtain ⟨h1, h2, h3, _⟩ := dd n
  have hp := parseM_dig (2 ^ B - 1) hB (Lib.decDigits n) 0 h1 (by omega)
  rw [h2] at hp
  cases hq : Lib.decDigits n with
  | nil => exact absurd hq h3
  | cons c r =>
    rw [hq] at hp
    have hc := h1 c (by rw [hq]; simp)
    unfold dig at hc
    have e1 : ¬ (c.toNat = 43 ∨ c.toNat = 45) := by omega
    have e2 : ¬ (c.toNat = 45) := by omega
    unfold Lib.parseIntB
    simp only [if_neg e1]
    unfold Lib.parseUintB
    rw [if_neg (by simp), hp]
    simp only [e2, not_false_eq_true, true_and, false_and, if_false]
    rw [if_neg (by omega)]
theorem numRes_dec (n : Nat) (h : n < 1000000000) : numRes (Lib.decDigits n) = ((n : Int), true) := by
  unfold numRes
  rw [parseB_dec 64 (by decide) (by decide) n h]
  simp only [Lib.itoa_nonneg, decide_true]
theorem no32 (n : Nat) (c : UInt8) (hc : ¬ dig c) : c ∉ Lib.decDigits n := fun h => hc ((dd n).1 c h)
/-- The model's reading of a number. -/
theorem l01Number_l (a : ByteArray) (ha : a.size ≤ 9) (d : Nat) : ∀ (k i acc : Nat), a.size - i = d → d < k → i ≤ a.size → acc < 10 ^ i →
    ((∀ b ∈ a.data.toList.drop i, dig b) → spec_l01Number.l0 k a (acc : Int) (i : Int) = some (((spell acc (a.data.toList.drop i) : Nat) : Int), true)) ∧ ((¬ ∀ b ∈ a.data.toList.drop i, dig b) → spec_l01Number.l0 k a (acc : Int) (i : Int) = some (0, false)) := by
  induction d with
  | zero =>
    intro k i acc hd hk hi _
    obtain ⟨k, rfl⟩ : ∃ m, k = m + 1 := ⟨k - 1, by omega⟩
    have e : a.data.toList.drop i = [] := List.drop_of_length_le (by rw [sz_d]; omega)
    rw [e]
    simp only [spec_l01Number.l0]
    rw [if_neg (by omega)]
    exact ⟨fun _ => rfl, fun h => absurd (by simp) h⟩
  | succ d ih =>
    intro k i acc hd hk hi hacc
    obtain ⟨k, rfl⟩ : ∃ m, k = m + 1 := ⟨k - 1, by omega⟩
    have hlt : i < a.data.toList.length := by rw [sz_d]; omega
    have w : wrap64 ((i : Int) + 1) = ((i + 1 : Nat) : Int) := by rw [b_wrap _ (by omega) (by omega)]; omega
    have h10 : (10 : Nat) ^ i ≤ 10 ^ 8 := Nat.pow_le_pow_right (by decide) (by omega)
    have e8 : (10 : Nat) ^ 8 = 100000000 := by decide
    have hdr : a.data.toList.drop i = a.data.toList[i] :: a.data.toList.drop (i + 1) := List.drop_eq_getElem_cons hlt
    obtain ⟨b, hb⟩ : ∃ b, b = a.data.toList[i] := ⟨_, rfl⟩
    rw [hdr]
    simp only [spec_l01Number.l0, w]
    rw [if_pos (by omega), if_pos (by omega), bt_l a i hlt, ← hb]
    have hbb := b.toNat_lt
    by_cases h1 : b.toNat < 48
    · rw [if_pos (by omega)]
      refine ⟨fun h => ?_, fun _ => rfl⟩
      have := (h b (by simp)).1
      omega
    · by_cases h2 : 57 < b.toNat
      · rw [if_neg (by omega), if_pos (by omega)]
        refine ⟨fun h => ?_, fun _ => rfl⟩
        have := (h b (by simp)).2
        omega
      · rw [if_neg (by omega), if_neg (by omega)]
        have e : wrap64 (wrap64 (10 * (acc : Int)) + ((b.toNat : Int) - 48) % 256) = ((10 * acc + (b.toNat - 48) : Nat) : Int) := by
          rw [b_wrap (10 * (acc : Int)) (by omega) (by omega), b_wrap _ (by omega) (by omega)]; omega
        rw [e]
        have hdig : dig b := ⟨by omega, by omega⟩
        obtain ⟨g1, g2⟩ := ih k (i + 1) (10 * acc + (b.toNat - 48)) (by omega) (by omega) (by omega) (by rw [Nat.pow_succ]; omega)
        refine ⟨fun h => ?_, fun h => ?_⟩
        · rw [g1 (fun x hx => h x (by simp [hx]))]; rfl
        · refine g2 (fun q => h (fun x hx => ?_))
          rcases List.mem_cons.1 hx with rfl | hx
          · exact hdig
          · exact q x hx
theorem l01Number_t (a : ByteArray) (k : Nat) (hk : 30 ≤ k) : (good a.data.toList → spec_l01Number.f k a = some (((spell 0 a.data.toList : Nat) : Int), true)) ∧ (¬ good a.data.toList → spec_l01Number.f k a = some (0, false)) := by
  obtain ⟨k, rfl⟩ : ∃ m, k = m + 1 := ⟨k - 1, by omega⟩
  unfold spec_l01Number.f
  rw [Lib.toList_data]
  by_cases h0 : a.data.toList = ([] : List UInt8)
  · rw [if_pos h0]
    refine ⟨fun h => absurd h0 h.1, fun _ => ?_⟩
    simp [spec_l01Number.j0]
  · rw [if_neg h0]
    by_cases h1 : (a.size : Int) > 9
    · rw [if_pos h1]
      refine ⟨fun h => ?_, fun _ => by simp [spec_l01Number.j0]⟩
      have := h.2.1
      rw [sz_d] at this
      omega
    · rw [if_neg h1]
      have hs : 0 < a.data.toList.length := List.length_pos_iff.2 h0
      have hs' := hs
      rw [sz_d] at hs'
      rw [if_pos (by omega)]
      have hb := bt_l a 0 hs
      have hb0 : bt a 0 = ((a.data.toList[0]).toNat : Int) := hb
      have hh : a.data.toList.head? = some a.data.toList[0] := by rw [List.head?_eq_getElem?, List.getElem?_eq_getElem hs]
      obtain ⟨g1, g2⟩ := l01Number_l a (by omega) a.size k 0 0 (by omega) (by omega) (by omega) (by decide)
      rw [List.drop_zero] at g1 g2
      have run : ∀ q : (a.data.toList.head? = some 48 → a.data.toList.length = 1), (good a.data.toList → spec_l01Number.l0 k a 0 0 = some (((spell 0 a.data.toList : Nat) : Int), true)) ∧ (¬ good a.data.toList → spec_l01Number.l0 k a 0 0 = some (0, false)) := fun q =>
        ⟨fun h => g1 h.2.2.2, fun h => g2 (fun hd => h ⟨h0, by rw [sz_d]; omega, q, hd⟩)⟩
      rw [hb0]
      by_cases h48 : ((a.data.toList[0]).toNat : Int) = 48
      · rw [if_pos h48]
        have e48 : a.data.toList[0] = 48 := UInt8.toNat_inj.1 (by have e : (48 : UInt8).toNat = 48 := rfl; omega)
        by_cases hl : a.size = 1
        · have hf : decide ((a.size : Int) > 1) = false := decide_eq_false (by omega)
          rw [hf]
          simp only [spec_l01Number.j0, Bool.false_eq_true, if_false]
          exact run (fun _ => by rw [sz_d]; exact hl)
        · have hf : decide ((a.size : Int) > 1) = true := decide_eq_true (by omega)
          rw [hf]
          simp only [spec_l01Number.j0, if_true]
          refine ⟨fun h => ?_, fun _ => trivial⟩
          have := h.2.2.1 (by rw [hh, e48])
          rw [sz_d] at this
          exact absurd this hl
      · rw [if_neg h48]
        simp only [spec_l01Number.j0, Bool.false_eq_true, if_false]
        refine run (fun q => ?_)
        rw [hh] at q
        have : a.data.toList[0] = 48 := Option.some.inj q
        rw [this] at h48
        exact absurd rfl h48
theorem data_inj : ∀ (xs ys : List ByteArray), xs.map (·.data.toList) = ys.map (·.data.toList) → xs = ys
  | [], [], _ => rfl
  | [], _ :: _, h => by simp at h
  | _ :: _, [], h => by simp at h
  | x :: xs, y :: ys, h => by
    rw [List.map_cons, List.map_cons] at h
    obtain ⟨h1, h2⟩ := List.cons.inj h
    have e : x = y := ByteArray.ext (Array.toList_inj.1 h1)
    rw [e, data_inj xs ys h2]
def FW : List UInt8 := [102, 111, 108, 108, 111, 119, 101, 114]
/-- What the model asks of the three words. -/
def Cs (x y z : ByteArray) : Prop := x.data.toList = FW ∧ good y.data.toList ∧ good z.data.toList ∧ (1 ≤ spell 0 y.data.toList ∧ spell 0 y.data.toList ≤ 20000) ∧ (1 ≤ spell 0 z.data.toList ∧ spell 0 z.data.toList ≤ 10000)
theorem specW (x y z : ByteArray) (k : Nat) (hk : 40 ≤ k) :
    (Cs x y z → spec_ReadFollower.j0 k [x, y, z] (x.toList != ([102, 111, 108, 108, 111, 119, 101, 114] : List UInt8)) = some (((spell 0 y.data.toList : Nat) : Int), ((spell 0 z.data.toList : Nat) : Int), 0)) ∧
    (¬ Cs x y z → spec_ReadFollower.j0 k [x, y, z] (x.toList != ([102, 111, 108, 108, 111, 119, 101, 114] : List UInt8)) = some (0, 0, 5)) := by
  obtain ⟨k, rfl⟩ : ∃ m, k = m + 1 := ⟨k - 1, by omega⟩
  rw [Lib.toList_data]
  have r1 : rdOf ByteArray.empty [x, y, z] 1 = y := rfl
  have r2 : rdOf ByteArray.empty [x, y, z] 2 = z := rfl
  have l1 : (1 : Int) < (([x, y, z] : List ByteArray).length : Int) := by simp
  have l2 : (2 : Int) < (([x, y, z] : List ByteArray).length : Int) := by simp
  obtain ⟨gy, ngy⟩ := l01Number_t y k (by omega)
  obtain ⟨gz, ngz⟩ := l01Number_t z k (by omega)
  simp only [spec_ReadFollower.j0]
  by_cases hx : x.data.toList = FW
  · have hf : ¬ ((x.data.toList != ([102, 111, 108, 108, 111, 119, 101, 114] : List UInt8)) = true) := by rw [hx]; simp [FW]
    rw [if_neg hf]
    simp only [if_pos l1, if_pos l2, r1, r2]
    by_cases hy : good y.data.toList
    · rw [gy hy]
      by_cases hz : good z.data.toList
      · rw [gz hz]
        simp only [Option.bind_some, if_true]
        unfold spec_l03Ok.f
        simp only [spec_l00In_t, Option.bind_some]
        by_cases h1 : 1 ≤ spell 0 y.data.toList ∧ spell 0 y.data.toList ≤ 20000
        · rw [decide_eq_true (show (1 : Int) ≤ ((spell 0 y.data.toList : Nat) : Int) ∧ ((spell 0 y.data.toList : Nat) : Int) ≤ 20000 by omega)]
          by_cases h2 : 1 ≤ spell 0 z.data.toList ∧ spell 0 z.data.toList ≤ 10000
          · rw [decide_eq_true (show (1 : Int) ≤ ((spell 0 z.data.toList : Nat) : Int) ∧ ((spell 0 z.data.toList : Nat) : Int) ≤ 10000 by omega)]
            exact ⟨fun _ => by simp, fun h => absurd ⟨hx, hy, hz, h1, h2⟩ h⟩
          · rw [decide_eq_false (show ¬ ((1 : Int) ≤ ((spell 0 z.data.toList : Nat) : Int) ∧ ((spell 0 z.data.toList : Nat) : Int) ≤ 10000) by omega)]
            exact ⟨fun h => absurd h.2.2.2.2 h2, fun _ => by simp⟩
        · rw [decide_eq_false (show ¬ ((1 : Int) ≤ ((spell 0 y.data.toList : Nat) : Int) ∧ ((spell 0 y.data.toList : Nat) : Int) ≤ 20000) by omega)]
          exact ⟨fun h => absurd h.2.2.2.1 h1, fun _ => by simp⟩
      · rw [ngz hz]
        exact ⟨fun h => absurd h.2.2.1 hz, fun _ => by simp⟩
    · rw [ngy hy]
      by_cases hz : good z.data.toList
      · rw [gz hz]
        exact ⟨fun h => absurd h.2.1 hy, fun _ => by simp⟩
      · rw [ngz hz]
        exact ⟨fun h => absurd h.2.1 hy, fun _ => by simp⟩
  · have hf : (x.data.toList != ([102, 111, 108, 108, 111, 119, 101, 114] : List UInt8)) = true := by simpa [FW] using hx
    rw [if_pos hf]
    exact ⟨fun h => absurd h.1 hx, fun _ => rfl⟩
/-- What the program asks of the text. -/
def Ds (l : List UInt8) (n m : Int) : Prop := (1 ≤ n ∧ n ≤ 20000) ∧ (1 ≤ m ∧ m ≤ 10000) ∧ FW ++ 32 :: (Lib.itoa n ++ 32 :: Lib.itoa m) = l
theorem follText (n m : Int) (hn : 1 ≤ n ∧ n ≤ 20000) (hm : 1 ≤ m ∧ m ≤ 10000) : ∃ t, impl_FollowerText.f n m = some t ∧ t.data.toList = FW ++ 32 :: (Lib.itoa n ++ 32 :: Lib.itoa m) := by
  have l0 := itoa_len 9 n (by omega) (by omega)
  have l1 := itoa_len 9 m (by omega) (by omega)
  unfold impl_FollowerText.f impl_ValidFollower.f impl_isSpring.f
  simp only [impl_inRange_t, Option.bind_some, decide_eq_true hn, decide_eq_true hm, if_true]
  unfold impl_decimal.f
  rw [if_neg (by omega), if_pos (by omega), if_neg (by omega), if_pos (by omega)]
  simp only [Option.bind_some, ByteArray.size_append, sz_l]
  have s9 : [(102 : UInt8), 111, 108, 108, 111, 119, 101, 114, 32].length = 9 := rfl
  have s1 : [(32 : UInt8)].length = 1 := rfl
  rw [s9, s1, if_pos (by omega), if_pos (by omega), if_pos (by omega)]
  refine ⟨_, rfl, ?_⟩
  simp [ByteArray.data_append, FW]
theorem implW (a x y z : ByteArray) (ha : a.size ≤ 1048576) (hy : y.size ≤ 1048576) (hz : z.size ≤ 1048576) (hw : Lib.splitB ⟨#[32]⟩ 0 (Lib.countB a ⟨#[32]⟩) a = [x, y, z]) :
    (Ds a.data.toList (numRes y.data.toList).1 (numRes z.data.toList).1 → impl_ReadFollower.f a = some ((numRes y.data.toList).1, (numRes z.data.toList).1, 0)) ∧
    (¬ Ds a.data.toList (numRes y.data.toList).1 (numRes z.data.toList).1 → impl_ReadFollower.f a = some (0, 0, 5)) := by
  have r1 : rdOf ByteArray.empty [x, y, z] 1 = y := rfl
  have r2 : rdOf ByteArray.empty [x, y, z] 2 = z := rfl
  have l0 : (([x, y, z] : List ByteArray).length : Int) = 3 := rfl
  have l1 : (1 : Int) < (([x, y, z] : List ByteArray).length : Int) := by simp
  have l2 : (2 : Int) < (([x, y, z] : List ByteArray).length : Int) := by simp
  have e1 : strings_Split.f a ⟨#[32]⟩ = some [x, y, z] := by
    unfold strings_Split.f
    rw [if_pos ha, if_pos (by decide), hw]
  have e2 : impl_number.f y = some (numRes y.data.toList) := by unfold impl_number.f; rw [if_pos hy]
  have e3 : impl_number.f z = some (numRes z.data.toList) := by unfold impl_number.f; rw [if_pos hz]
  obtain ⟨n, hn⟩ : ∃ n, n = (numRes y.data.toList).1 := ⟨_, rfl⟩
  obtain ⟨m, hm⟩ : ∃ m, m = (numRes z.data.toList).1 := ⟨_, rfl⟩
  unfold impl_ReadFollower.f
  rw [e1]
  simp only [Option.bind_some]
  simp only [if_pos l0, if_pos l1, if_pos l2, r1, r2, e2, e3, Option.bind_some]
  rw [← hn, ← hm]
  have hv : impl_ValidFollower.f n m = some (decide (1 ≤ n ∧ n ≤ 20000) && decide (1 ≤ m ∧ m ≤ 10000)) := by
    unfold impl_ValidFollower.f impl_isSpring.f
    simp only [impl_inRange_t, Option.bind_some]
    by_cases q : 1 ≤ n ∧ n ≤ 20000
    · simp [q]
    · simp [decide_eq_false q]
  rw [hv]
  simp only [Option.bind_some]
  by_cases q1 : 1 ≤ n ∧ n ≤ 20000
  · by_cases q2 : 1 ≤ m ∧ m ≤ 10000
    · obtain ⟨t, ht, hd⟩ := follText n m q1 q2
      rw [decide_eq_true q1, decide_eq_true q2, ht]
      simp only [Bool.and_self, if_true, Option.bind_some, Lib.toList_data, hd]
      refine ⟨fun h => by rw [if_pos h.2.2], fun h => by rw [if_neg (fun e => h ⟨q1, q2, e⟩)]⟩
    · rw [decide_eq_false q2, Bool.and_false]
      exact ⟨fun h => absurd h.2.1 q2, fun _ => by simp⟩
  · rw [decide_eq_false q1, Bool.false_and]
    exact ⟨fun h => absurd h.1 q1, fun _ => by simp⟩
theorem readBoth (a : ByteArray) (ha : a.size ≤ 1048576) (k : Nat) (hk : a.size + 50 < k) : ∃ r, spec_ReadFollower.f k a = some r ∧ impl_ReadFollower.f a = some r := by
  obtain ⟨ws, h1, h2⟩ := l01Split_t a ha 32 k (by omega)
  have h3 := splitB_sp a 32
  have hw : Lib.splitB ⟨#[32]⟩ 0 (Lib.countB a ⟨#[32]⟩) a = ws := data_inj _ _ (h3.trans h2.symm)
  have h1' : spec_l01Split.f k a 32 = some ws := h1
  unfold spec_ReadFollower.f
  rw [h1']
  simp only [Option.bind_some]
  by_cases hl : ws.length = 3
  · match ws, hl with
    | [x, y, z], _ =>
      have l0 : (([x, y, z] : List ByteArray).length : Int) = 3 := rfl
      have l1 : (0 : Int) < (([x, y, z] : List ByteArray).length : Int) := by simp
      have r0 : rdOf ByteArray.empty [x, y, z] 0 = x := rfl
      rw [if_pos l0, if_pos l1, r0]
      have hj : x.data.toList ++ 32 :: (y.data.toList ++ 32 :: z.data.toList) = a.data.toList := by
        have := sp_join 32 a.data.toList
        rw [← h2] at this
        simpa [jn] using this
      have hlen := congrArg List.length hj
      simp only [List.length_append, List.length_cons, sz_d] at hlen
      obtain ⟨s1, s2⟩ := specW x y z k (by omega)
      obtain ⟨i1, i2⟩ := implW a x y z ha (by omega) (by omega) hw
      have fw : Cs x y z → (numRes y.data.toList).1 = ((spell 0 y.data.toList : Nat) : Int) ∧ (numRes z.data.toList).1 = ((spell 0 z.data.toList : Nat) : Int) ∧ Ds a.data.toList (numRes y.data.toList).1 (numRes z.data.toList).1 := by
        rintro ⟨c0, c1, c2, c3, c4⟩
        have gy := good_dec _ c1
        have gz := good_dec _ c2
        have ny := numRes_dec (spell 0 y.data.toList) (by omega)
        have nz := numRes_dec (spell 0 z.data.toList) (by omega)
        rw [gy] at ny
        rw [gz] at nz
        rw [ny, nz]
        refine ⟨rfl, rfl, ⟨?_, ?_, ?_⟩⟩
        · show (1 : Int) ≤ ((spell 0 y.data.toList : Nat) : Int) ∧ ((spell 0 y.data.toList : Nat) : Int) ≤ 20000
          omega
        · show (1 : Int) ≤ ((spell 0 z.data.toList : Nat) : Int) ∧ ((spell 0 z.data.toList : Nat) : Int) ≤ 10000
          omega
        · show FW ++ 32 :: (Lib.itoa ((spell 0 y.data.toList : Nat) : Int) ++ 32 :: Lib.itoa ((spell 0 z.data.toList : Nat) : Int)) = a.data.toList
          rw [Lib.itoa_nonneg, Lib.itoa_nonneg, gy, gz, ← c0, hj]
      have bw : Ds a.data.toList (numRes y.data.toList).1 (numRes z.data.toList).1 → Cs x y z := by
        rintro ⟨d1, d2, d3⟩
        obtain ⟨n, hn⟩ := Int.eq_ofNat_of_zero_le (show 0 ≤ (numRes y.data.toList).1 by omega)
        obtain ⟨m, hm⟩ := Int.eq_ofNat_of_zero_le (show 0 ≤ (numRes z.data.toList).1 by omega)
        rw [hn] at d1 d3
        rw [hm] at d2 d3
        rw [Lib.itoa_nonneg, Lib.itoa_nonneg] at d3
        have nd : ¬ dig 32 := by unfold dig; decide
        have e : sp 32 a.data.toList = [FW, Lib.decDigits n, Lib.decDigits m] := by
          rw [← d3, sp_app 32 FW (by decide), sp_app 32 _ (no32 n 32 nd), sp_one 32 _ (no32 m 32 nd)]
        rw [← h2] at e
        have e' : [x.data.toList, y.data.toList, z.data.toList] = [FW, Lib.decDigits n, Lib.decDigits m] := e
        simp only [List.cons.injEq, and_true] at e'
        obtain ⟨e1, e2, e3⟩ := e'
        have sy : spell 0 y.data.toList = n := by rw [e2]; exact (dd n).2.1
        have sz : spell 0 z.data.toList = m := by rw [e3]; exact (dd m).2.1
        have d1' : (1 : Int) ≤ (n : Int) ∧ (n : Int) ≤ 20000 := d1
        have d2' : (1 : Int) ≤ (m : Int) ∧ (m : Int) ≤ 10000 := d2
        refine ⟨e1, by rw [e2]; exact dec_good n (by omega), by rw [e3]; exact dec_good m (by omega), by rw [sy]; omega, by rw [sz]; omega⟩
      by_cases hc : Cs x y z
      · obtain ⟨f1, f2, f3⟩ := fw hc
        refine ⟨_, s1 hc, ?_⟩
        rw [i1 f3, f1, f2]
      · exact ⟨_, s2 hc, i2 (fun h => hc (bw h))⟩
  · have hl' : ¬ ((ws.length : Int) = 3) := by omega
    rw [if_neg hl']
    obtain ⟨k, rfl⟩ : ∃ m, k = m + 1 := ⟨k - 1, by omega⟩
    refine ⟨(0, 0, 5), by simp only [spec_ReadFollower.j0, if_true], ?_⟩
    unfold impl_ReadFollower.f strings_Split.f
    rw [if_pos ha, if_pos (by decide), hw]
    simp only [Option.bind_some]
    rw [if_neg hl']
theorem FnExactReadFollower (a0 : ByteArray) (w0 : a0.size ≤ 140737488351232) : ∃ k, laws_FnExactReadFollower.f k a0 = some true := by
  unfold laws_FnExactReadFollower.f
  by_cases h : (a0.size : Int) > 1048576
  · exact ⟨1, by rw [if_pos h]⟩
  · obtain ⟨r, h1, h2⟩ := readBoth a0 (by omega) (a0.size + 100) (by omega)
    refine ⟨a0.size + 100, ?_⟩
    rw [if_neg h, h1, h2]
    simp only [Option.bind_some, laws_eqFollower.f, if_true]

end Go.Proofs.YtcfjdpegllnhfaaDoor.Pure
