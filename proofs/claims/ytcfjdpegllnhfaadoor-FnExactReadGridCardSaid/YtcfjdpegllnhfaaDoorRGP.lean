/- The plain law of the grid's text: what the model accepts the program reads alike, and a grid's own text is accepted by the model. No conditions. -/
import Derived.Test.YtcfjdpegllnhfaaDoorFFnExactReadGridx1
import Derived.Test.YtcfjdpegllnhfaaDoorUX
import Derived.Test.YtcfjdpegllnhfaaDoorGT
import Derived.Lib.ItoaMem
import Derived.Laws.Bits64b
namespace Go.Proofs.YtcfjdpegllnhfaaDoor.RGP
open Go.RowKit Go.Proofs.YtcfjdpegllnhfaaDoor.FFnExactReadGrid Go.Proofs.YtcfjdpegllnhfaaDoorW.PrintWords Go.Proofs.YtcfjdpegllnhfaaDoorW.PrintLast Go.Proofs.YtcfjdpegllnhfaaDoor.UX Go.Proofs.YtcfjdpegllnhfaaDoor.GT
set_option linter.unusedVariables false

theorem b_wrap (x : Int) (h : -9223372036854775808 ≤ x) (h' : x ≤ 9223372036854775807) : wrap64 x = x := by
  unfold wrap64; omega

theorem b_rd (l : List Int) (i : Nat) (h : i < l.length) : rd l (i : Int) = l[i] := by
  unfold rd; rw [List.getD_eq_getElem?_getD, Int.toNat_natCast, List.getElem?_eq_getElem h]; rfl

theorem b_take (l : List Int) (i : Nat) (h : i < l.length) : l.take (i + 1) = l.take i ++ [l[i]] := by
  rw [List.take_succ_eq_append_getElem h]

theorem b_set (x : List Int) (i : Nat) (v : Int) (h : i < x.length) : (x.set i v).take (i + 1) = x.take i ++ [v] := by
  have h' : i < (x.set i v).length := by rw [List.length_set]; exact h
  rw [List.take_succ_eq_append_getElem h', List.getElem_set_self, List.take_set_of_le (Nat.le_refl i)]
theorem sz_l (l : List UInt8) : (⟨l.toArray⟩ : ByteArray).size = l.length := by simp [ByteArray.size]
theorem app_l (l : List UInt8) (d : UInt8) : (⟨l.toArray⟩ : ByteArray) ++ (⟨#[d]⟩ : ByteArray) = ⟨(l ++ [d]).toArray⟩ := by
  apply ByteArray.ext
  simp [ByteArray.data_append]
theorem dec_len : ∀ (k n : Nat), n < 10 ^ (k + 1) → (Lib.decDigits n).length ≤ k + 1
  | 0, n, h => by rw [Lib.decDigits, dif_pos (by simpa using h)]; simp
  | k + 1, n, h => by
    rw [Lib.decDigits]
    split
    · simp
    · rw [List.length_append]
      have := dec_len k (n / 10) (by rw [Nat.pow_succ] at h; omega)
      simp only [List.length_singleton]
      omega
theorem itoa_len (k : Nat) (a : Int) (h0 : 0 ≤ a) (h1 : a < 10 ^ (k + 1)) : (Lib.itoa a).length ≤ k + 1 := by
  obtain ⟨n, rfl⟩ := Int.eq_ofNat_of_zero_le h0
  rw [Lib.itoa_nonneg]
  exact dec_len k n (by exact_mod_cast h1)
/-- A text parted at each such byte. -/
def sp (c : UInt8) : List UInt8 → List (List UInt8)
  | [] => [[]]
  | b :: l => if b = c then [] :: sp c l else match sp c l with | [] => [[b]] | x :: xs => (b :: x) :: xs
theorem sp_ne (c : UInt8) : ∀ l, ∃ x xs, sp c l = x :: xs
  | [] => ⟨_, _, rfl⟩
  | b :: l => by
    unfold sp
    by_cases h : b = c
    · rw [if_pos h]; exact ⟨_, _, rfl⟩
    · rw [if_neg h]
      obtain ⟨x, xs, e⟩ := sp_ne c l
      rw [e]; exact ⟨_, _, rfl⟩
theorem sp_eq (c : UInt8) (l : List UInt8) : sp c (c :: l) = [] :: sp c l := by rw [sp, if_pos rfl]
theorem sp_cons (c b : UInt8) (l : List UInt8) (h : b ≠ c) {x : List UInt8} {xs : List (List UInt8)} (e : sp c l = x :: xs) : sp c (b :: l) = (b :: x) :: xs := by rw [sp, if_neg h, e]
/-- The parts put together again. -/
def jn (c : UInt8) : List (List UInt8) → List UInt8
  | [] => []
  | [x] => x
  | x :: y :: xs => x ++ c :: jn c (y :: xs)
theorem jn_cons (c b : UInt8) (x : List UInt8) (xs : List (List UInt8)) : jn c ((b :: x) :: xs) = b :: jn c (x :: xs) := by
  cases xs <;> simp [jn]
theorem sp_join (c : UInt8) : ∀ l, jn c (sp c l) = l
  | [] => rfl
  | b :: l => by
    obtain ⟨x, xs, e⟩ := sp_ne c l
    have ih := sp_join c l
    by_cases h : b = c
    · subst h
      rw [sp_eq, e, jn, List.nil_append, ← e, ih]
    · rw [sp_cons c b l h e, jn_cons, ← e, ih]
theorem sp_app (c : UInt8) : ∀ (a : List UInt8), c ∉ a → ∀ r, sp c (a ++ c :: r) = a :: sp c r
  | [], _, r => by rw [List.nil_append, sp_eq]
  | b :: a, h, r => by
    have h1 : b ≠ c := fun e => h (by simp [e])
    have h2 : c ∉ a := fun e => h (by simp [e])
    rw [List.cons_append, sp_cons c b _ h1 (sp_app c a h2 r)]
theorem sp_one (c : UInt8) : ∀ (a : List UInt8), c ∉ a → sp c a = [a]
  | [], _ => rfl
  | b :: a, h => by
    have h1 : b ≠ c := fun e => h (by simp [e])
    have h2 : c ∉ a := fun e => h (by simp [e])
    rw [sp_cons c b _ h1 (sp_one c a h2)]
theorem sp_part (c : UInt8) : ∀ (l : List UInt8) (x : List UInt8), x ∈ sp c l → c ∉ x
  | [], x, h => by
    have : x = [] := by simpa [sp] using h
    rw [this]; simp
  | b :: l, x, h => by
    obtain ⟨y, ys, e⟩ := sp_ne c l
    have ih := sp_part c l
    by_cases hb : b = c
    · subst hb
      rw [sp_eq] at h
      rcases List.mem_cons.1 h with rfl | h
      · simp
      · exact ih x h
    · rw [sp_cons c b l hb e] at h
      rw [e] at ih
      rcases List.mem_cons.1 h with rfl | h
      · intro q
        rcases List.mem_cons.1 q with q | q
        · exact hb q.symm
        · exact ih y (by simp) q
      · exact ih x (by simp [h])
/-- The library's split at one byte. -/
theorem splitK_sp (c : UInt8) : ∀ (n : Nat) (s : List UInt8), s.length ≤ n → ∀ fuel, s.length < fuel → Lib.splitK [c] 0 (Lib.countFrom [c] fuel s) s = sp c s
  | n, s, hn, fuel, hf => by
    obtain ⟨fuel, rfl⟩ : ∃ m, fuel = m + 1 := ⟨fuel - 1, by omega⟩
    have e1 := Lib.index_one s c
    by_cases h : Lib.index s [c] = -1
    · have h' : Lib.indexByte s c = -1 := by rw [← e1]; exact h
      have hno : c ∉ s := fun hc => by
        obtain ⟨k, hk⟩ := List.getElem?_of_mem hc
        exact Lib.indexByte_none h' k hk
      rw [Lib.countFrom, if_pos (beq_iff_eq.2 h), Lib.splitK, sp_one c s hno]
    · obtain ⟨i, hi⟩ : ∃ i : Nat, Lib.index s [c] = i := ⟨(Lib.index s [c]).toNat, by have := Lib.index_ge s [c]; omega⟩
      have h' : Lib.indexByte s c = (i : Int) := by rw [← e1]; exact hi
      obtain ⟨g1, g2⟩ := Lib.indexByte_some h'
      have hlt : i < s.length := (List.getElem?_eq_some_iff.1 g1).1
      have hb : ¬ (Lib.index s [c] == -1) = true := fun e => h (beq_iff_eq.1 e)
      have ht : (Lib.index s [c]).toNat = i := by omega
      rw [Lib.countFrom, if_neg hb, ht, Nat.add_comm 1, Lib.splitK, if_neg hb, ht, Nat.add_zero, List.length_singleton]
      have hd : (s.drop (i + 1)).length < fuel := by rw [List.length_drop]; omega
      have hd2 : (s.drop (i + 1)).length ≤ n - 1 := by rw [List.length_drop]; omega
      have hpos : 1 ≤ n := by omega
      match n, hpos with
      | n + 1, _ =>
        rw [splitK_sp c n (s.drop (i + 1)) (by omega) fuel hd]
        have hs : s = s.take i ++ c :: s.drop (i + 1) := by
          have e2 : s[i] = c := (List.getElem?_eq_some_iff.1 g1).2
          conv => lhs; rw [← List.take_append_drop i s, List.drop_eq_getElem_cons hlt, e2]
        have hno : c ∉ s.take i := fun hc => by
          obtain ⟨k, hk⟩ := List.getElem?_of_mem hc
          have hk1 := (List.getElem?_eq_some_iff.1 hk).1
          rw [List.length_take] at hk1
          rw [List.getElem?_take_of_lt (by omega)] at hk
          exact g2 k (by omega) hk
        conv => rhs; rw [hs]
        rw [sp_app c _ hno]
theorem splitB_sp (s : ByteArray) (c : UInt8) : (Lib.splitB ⟨#[c]⟩ 0 (Lib.countB s ⟨#[c]⟩) s).map (·.data.toList) = sp c s.data.toList := by
  rw [Lib.splitB_data]
  exact splitK_sp c s.data.toList.length s.data.toList (Nat.le_refl _) _ (by omega)
theorem sz_d (s : ByteArray) : s.data.toList.length = s.size := Array.length_toList
theorem bt_l (s : ByteArray) (i : Nat) (h : i < s.data.toList.length) : bt s (i : Int) = ((s.data.toList[i]).toNat : Int) := by
  have h' : i < s.size := by rw [← sz_d]; exact h
  unfold bt
  rw [Int.toNat_natCast, dif_pos h']
  rfl
/-- The model's split. -/
theorem l01Split_l (a : ByteArray) (ha : a.size ≤ 1048576) (c : UInt8) (d : Nat) : ∀ (k b i : Nat) (acc : List ByteArray), a.size - i = d → d < k → b ≤ i → i ≤ a.size → acc.length ≤ i →
    ∃ r, spec_l01Split.l0 k a (c.toNat : Int) acc (b : Int) (i : Int) = some r ∧ ∀ x xs, sp c (a.data.toList.drop i) = x :: xs → r.map (·.data.toList) = acc.map (·.data.toList) ++ (((a.data.toList.drop b).take (i - b) ++ x) :: xs) := by
  induction d with
  | zero =>
    intro k b i acc hd hk hb hi hacc
    obtain ⟨k, rfl⟩ : ∃ m, k = m + 1 := ⟨k - 1, by omega⟩
    simp only [spec_l01Split.l0]
    rw [if_neg (by omega), if_pos (by omega), if_pos (by omega), if_pos (by omega)]
    refine ⟨_, rfl, fun x xs h => ?_⟩
    rw [List.drop_of_length_le (by rw [sz_d]; omega)] at h
    obtain ⟨rfl, rfl⟩ : x = [] ∧ xs = [] := by simpa [sp, eq_comm] using h
    rw [List.map_append, List.map_singleton, Lib.extract_data, Int.toNat_natCast, List.append_nil]
    have e : i = a.size := by omega
    rw [e]
  | succ d ih =>
    intro k b i acc hd hk hb hi hacc
    obtain ⟨k, rfl⟩ : ∃ m, k = m + 1 := ⟨k - 1, by omega⟩
    have hlt : i < a.data.toList.length := by rw [sz_d]; omega
    have w : wrap64 ((i : Int) + 1) = ((i + 1 : Nat) : Int) := by rw [b_wrap _ (by omega) (by omega)]; omega
    have p1 : (i : Int) < (a.size : Int) := by omega
    have p2 : 0 ≤ (i : Int) := by omega
    have hdr : a.data.toList.drop i = a.data.toList[i] :: a.data.toList.drop (i + 1) := List.drop_eq_getElem_cons hlt
    simp only [spec_l01Split.l0, w]
    rw [if_pos p1, if_pos p2, bt_l a i hlt]
    by_cases h : a.data.toList[i] = c
    · rw [if_pos (by rw [h]), if_pos (by omega), if_pos (by omega), if_pos (by omega), if_pos (by omega)]
      obtain ⟨r, h1, h2⟩ := ih k (i + 1) (i + 1) (acc ++ [a.extract (b : Int).toNat (i : Int).toNat]) (by omega) (by omega) (by omega) (by omega) (by rw [List.length_append, List.length_singleton]; omega)
      refine ⟨r, h1, fun x xs hs => ?_⟩
      rw [hdr, h, sp_eq] at hs
      obtain ⟨y, ys, e⟩ := sp_ne c (a.data.toList.drop (i + 1))
      obtain ⟨rfl, rfl⟩ := List.cons.inj hs
      rw [h2 y ys e, e, List.map_append, List.map_singleton, Lib.extract_data, Int.toNat_natCast, Int.toNat_natCast, Nat.sub_self, List.take_zero, List.nil_append, List.append_nil, List.append_assoc]
      rfl
    · have hne : ¬ ((a.data.toList[i].toNat : Int) = (c.toNat : Int)) := fun e => h (UInt8.toNat_inj.1 (by omega))
      rw [if_neg hne]
      obtain ⟨r, h1, h2⟩ := ih k b (i + 1) acc (by omega) (by omega) (by omega) (by omega) (by omega)
      refine ⟨r, h1, fun x xs hs => ?_⟩
      obtain ⟨y, ys, e⟩ := sp_ne c (a.data.toList.drop (i + 1))
      rw [hdr, sp_cons c _ _ h e] at hs
      obtain ⟨rfl, rfl⟩ := List.cons.inj hs
      rw [h2 y ys e]
      have e3 : i + 1 - b = (i - b) + 1 := by omega
      have hlt2 : i - b < (a.data.toList.drop b).length := by rw [List.length_drop]; omega
      rw [e3, List.take_succ_eq_append_getElem hlt2, List.getElem_drop, List.append_assoc]
      congr 3
      simp only [show b + (i - b) = i by omega]
      rfl
theorem l01Split_t (a : ByteArray) (ha : a.size ≤ 1048576) (c : UInt8) (k : Nat) (hk : a.size < k) : ∃ r, spec_l01Split.f k a (c.toNat : Int) = some r ∧ r.map (·.data.toList) = sp c a.data.toList := by
  obtain ⟨r, h1, h2⟩ := l01Split_l a ha c a.size k 0 0 [] (by omega) hk (Nat.le_refl _) (by omega) (by simp)
  obtain ⟨x, xs, e⟩ := sp_ne c a.data.toList
  refine ⟨r, h1, ?_⟩
  rw [h2 x xs (by rw [List.drop_zero]; exact e), e]
  simp
def dig (b : UInt8) : Prop := 48 ≤ b.toNat ∧ b.toNat ≤ 57
/-- What digits spell, behind acc. -/
def spell (acc : Nat) (l : List UInt8) : Nat := l.foldl (fun a b => 10 * a + (b.toNat - 48)) acc
theorem spell_nil (acc : Nat) : spell acc [] = acc := rfl
theorem spell_cons (acc : Nat) (b : UInt8) (l : List UInt8) : spell acc (b :: l) = spell (10 * acc + (b.toNat - 48)) l := by unfold spell; rw [List.foldl_cons]
theorem val_snoc (l : List UInt8) (acc : Nat) (b : UInt8) : spell acc (l ++ [b]) = 10 * spell acc l + (b.toNat - 48) := by unfold spell; rw [List.foldl_append, List.foldl_cons, List.foldl_nil]
theorem val_ge : ∀ (l : List UInt8) (acc : Nat), acc ≤ spell acc l
  | [], _ => Nat.le_refl _
  | b :: l, acc => by rw [spell_cons]; have := val_ge l (10 * acc + (b.toNat - 48)); omega
/-- A number's text. -/
def good (l : List UInt8) : Prop := l ≠ [] ∧ l.length ≤ 9 ∧ (l.head? = some 48 → l.length = 1) ∧ ∀ b ∈ l, dig b
theorem dig_u (b : UInt8) (h : dig b) : UInt8.ofNat (48 + (b.toNat - 48)) = b := by
  unfold dig at h
  rw [show 48 + (b.toNat - 48) = b.toNat by omega]
  exact UInt8.ofNat_toNat
theorem dec_val : ∀ (n : Nat) (l : List UInt8), l.length = n → l ≠ [] → (∀ b ∈ l, dig b) → l.head? ≠ some 48 → Lib.decDigits (spell 0 l) = l ∧ 0 < spell 0 l
  | 0, l, hn, h0, _, _ => absurd (List.length_eq_zero_iff.1 hn) h0
  | n + 1, l, hn, h0, hd, hh => by
    obtain ⟨m, b, rfl⟩ : ∃ m b, l = m ++ [b] := ⟨l.dropLast, l.getLast h0, (List.dropLast_concat_getLast h0).symm⟩
    have hb : dig b := hd b (by simp)
    have hb' := hb
    unfold dig at hb'
    rw [val_snoc]
    by_cases hm : m = []
    · subst hm
      have hne : b ≠ 48 := fun e => hh (by simp [e])
      have hne' : b.toNat ≠ 48 := fun e => hne (UInt8.toNat_inj.1 e)
      have e : 10 * spell 0 [] + (b.toNat - 48) = b.toNat - 48 := by show 10 * 0 + _ = _; omega
      rw [e]
      refine ⟨?_, by omega⟩
      rw [Lib.decDigits, dif_pos (by omega), dig_u b hb]
      rfl
    · have ih := dec_val n m (by rw [List.length_append, List.length_singleton] at hn; omega) hm (fun x hx => hd x (by simp [hx])) (by
        intro q
        apply hh
        cases m with
        | nil => exact absurd rfl hm
        | cons x m => simpa using q)
      refine ⟨?_, by omega⟩
      rw [Lib.decDigits, dif_neg (by omega)]
      have e1 : (10 * spell 0 m + (b.toNat - 48)) / 10 = spell 0 m := by omega
      have e2 : (10 * spell 0 m + (b.toNat - 48)) % 10 = b.toNat - 48 := by omega
      rw [e1, e2, ih.1, dig_u b hb]
theorem good_dec (l : List UInt8) (h : good l) : Lib.decDigits (spell 0 l) = l := by
  obtain ⟨h0, h1, h2, h3⟩ := h
  by_cases hh : l.head? = some 48
  · have := h2 hh
    match l, this with
    | [b], _ =>
      obtain rfl : b = 48 := by simpa using hh
      show Lib.decDigits (10 * 0 + ((48 : UInt8).toNat - 48)) = _
      rw [Lib.decDigits]
      rfl
  · exact (dec_val l.length l rfl h0 h3 hh).1
theorem dd : ∀ n : Nat, (∀ b ∈ Lib.decDigits n, dig b) ∧ spell 0 (Lib.decDigits n) = n ∧ Lib.decDigits n ≠ [] ∧ (0 < n → (Lib.decDigits n).head? ≠ some 48)
  | n => by
    have one : ∀ m, m < 10 → (UInt8.ofNat (48 + m)).toNat = 48 + m := fun m hm => by rw [UInt8.toNat_ofNat']; omega
    by_cases h : n < 10
    · rw [Lib.decDigits, dif_pos h]
      refine ⟨fun b hb => ?_, ?_, by simp, fun h0 q => ?_⟩
      · obtain rfl : b = UInt8.ofNat (48 + n) := by simpa using hb
        unfold dig; rw [one n h]; omega
      · show 10 * 0 + ((UInt8.ofNat (48 + n)).toNat - 48) = n
        rw [one n h]; omega
      · have q' : UInt8.ofNat (48 + n) = 48 := Option.some.inj q
        have := congrArg UInt8.toNat q'
        rw [one n h] at this
        have e : (48 : UInt8).toNat = 48 := rfl
        omega
    · obtain ⟨h1, h2, h3, h4⟩ := dd (n / 10)
      rw [Lib.decDigits, dif_neg h]
      refine ⟨fun b hb => ?_, ?_, by simp, fun h0 q => ?_⟩
      · rcases List.mem_append.1 hb with hb | hb
        · exact h1 b hb
        · obtain rfl : b = UInt8.ofNat (48 + n % 10) := by simpa using hb
          unfold dig; rw [one _ (by omega)]; omega
      · rw [val_snoc, h2, one _ (by omega)]; omega
      · apply h4 (by omega)
        cases hq : Lib.decDigits (n / 10) with
        | nil => exact absurd hq h3
        | cons x m => rw [hq] at q; simpa using q
termination_by n => n
decreasing_by omega
theorem dec_good (n : Nat) (h : n < 1000000000) : good (Lib.decDigits n) := by
  obtain ⟨h1, h2, h3, h4⟩ := dd n
  refine ⟨h3, dec_len 8 n (by omega), fun q => ?_, h1⟩
  by_cases h0 : 0 < n
  · exact absurd q (h4 h0)
  · obtain rfl : n = 0 := by omega
    rw [Lib.decDigits, dif_pos (by decide)]; rfl
theorem good_val (l : List UInt8) (h : good l) : spell 0 l < 1000000000 := by
  have key : ∀ (l : List UInt8) (acc i : Nat), (∀ b ∈ l, dig b) → acc < 10 ^ i → spell acc l < 10 ^ (i + l.length) := by
    intro l
    induction l with
    | nil => intro acc i _ h; exact h
    | cons b l ih =>
      intro acc i hd h
      have hb := hd b (by simp)
      unfold dig at hb
      have e : i + (b :: l).length = (i + 1) + l.length := by rw [List.length_cons]; omega
      rw [spell_cons, e]
      exact ih _ (i + 1) (fun x hx => hd x (by simp [hx])) (by rw [Nat.pow_succ]; omega)
  have := key l 0 0 h.2.2.2 (by decide)
  have h9 : 10 ^ (0 + l.length) ≤ 10 ^ 9 := Nat.pow_le_pow_right (by decide) (by have := h.2.1; omega)
  have e9 : (10 : Nat) ^ 9 = 1000000000 := by decide
  omega
theorem parseM_dig (M : Nat) (hM : 1000000000000000000 ≤ M) : ∀ (l : List UInt8) (acc : Nat), (∀ b ∈ l, dig b) → spell acc l < 1000000000000000000 → Lib.parseUintM M acc l = .ok (spell acc l)
  | [], acc, _, _ => rfl
  | b :: l, acc, hd, hv => by
    have hb := hd b (by simp)
    unfold dig at hb
    rw [spell_cons] at hv ⊢
    have hg := val_ge l (10 * acc + (b.toNat - 48))
    have e : acc * 10 + (b.toNat - 48) = 10 * acc + (b.toNat - 48) := by omega
    rw [Lib.parseUintM, if_pos hb, if_neg (by omega), if_neg (by omega), e]
    exact parseM_dig M hM l _ (fun x hx => hd x (by simp [hx])) hv
theorem parseB_dec (B : Nat) (hB : 1000000000000000000 ≤ 2 ^ B - 1) (hB2 : 1000000000000000000 ≤ 2 ^ (B - 1)) (n : Nat) (h : n < 1000000000) : Lib.parseIntB B (Lib.decDigits n) = .ok (n : Int) := by
  obtain ⟨h1, h2, h3, _⟩ := dd n
  have hp := parseM_dig (2 ^ B - 1) hB (Lib.decDigits n) 0 h1 (by omega)
  rw [h2] at hp
  cases hq : Lib.decDigits n with
  | nil => exact absurd hq h3
  | cons c r =>
    rw [hq] at hp
    have hc := h1 c (by rw [hq]; simp)
    unfold dig at hc
    have e1 : ¬ (c.toNat = 43 ∨ c.toNat = 45) := by omega
    have e2 : ¬ (c.toNat = 45) := by omega
    unfold Lib.parseIntB
    simp only [if_neg e1]
    unfold Lib.parseUintB
    rw [if_neg (by simp), hp]
    simp only [e2, not_false_eq_true, true_and, false_and, if_false]
    rw [if_neg (by omega)]
theorem numRes_dec (n : Nat) (h : n < 1000000000) : numRes (Lib.decDigits n) = ((n : Int), true) := by
  unfold numRes
  rw [parseB_dec 64 (by decide) (by decide) n h]
  simp only [Lib.itoa_nonneg, decide_true]
theorem no32 (n : Nat) (c : UInt8) (hc : ¬ dig c) : c ∉ Lib.decDigits n := fun h => hc ((dd n).1 c h)
/-- The model's reading of a number. -/
theorem l01Number_l (a : ByteArray) (ha : a.size ≤ 9) (d : Nat) : ∀ (k i acc : Nat), a.size - i = d → d < k → i ≤ a.size → acc < 10 ^ i →
    ((∀ b ∈ a.data.toList.drop i, dig b) → spec_l01Number.l0 k a (acc : Int) (i : Int) = some (((spell acc (a.data.toList.drop i) : Nat) : Int), true)) ∧ ((¬ ∀ b ∈ a.data.toList.drop i, dig b) → spec_l01Number.l0 k a (acc : Int) (i : Int) = some (0, false)) := by
  induction d with
  | zero =>
    intro k i acc hd hk hi _
    obtain ⟨k, rfl⟩ : ∃ m, k = m + 1 := ⟨k - 1, by omega⟩
    have e : a.data.toList.drop i = [] := List.drop_of_length_le (by rw [sz_d]; omega)
    rw [e]
    simp only [spec_l01Number.l0]
    rw [if_neg (by omega)]
    exact ⟨fun _ => rfl, fun h => absurd (by simp) h⟩
  | succ d ih =>
    intro k i acc hd hk hi hacc
    obtain ⟨k, rfl⟩ : ∃ m, k = m + 1 := ⟨k - 1, by omega⟩
    have hlt : i < a.data.toList.length := by rw [sz_d]; omega
    have w : wrap64 ((i : Int) + 1) = ((i + 1 : Nat) : Int) := by rw [b_wrap _ (by omega) (by omega)]; omega
    have h10 : (10 : Nat) ^ i ≤ 10 ^ 8 := Nat.pow_le_pow_right (by decide) (by omega)
    have e8 : (10 : Nat) ^ 8 = 100000000 := by decide
    have hdr : a.data.toList.drop i = a.data.toList[i] :: a.data.toList.drop (i + 1) := List.drop_eq_getElem_cons hlt
    obtain ⟨b, hb⟩ : ∃ b, b = a.data.toList[i] := ⟨_, rfl⟩
    rw [hdr]
    simp only [spec_l01Number.l0, w]
    rw [if_pos (by omega), if_pos (by omega), bt_l a i hlt, ← hb]
    have hbb := b.toNat_lt
    by_cases h1 : b.toNat < 48
    · rw [if_pos (by omega)]
      refine ⟨fun h => ?_, fun _ => rfl⟩
      have := (h b (by simp)).1
      omega
    · by_cases h2 : 57 < b.toNat
      · rw [if_neg (by omega), if_pos (by omega)]
        refine ⟨fun h => ?_, fun _ => rfl⟩
        have := (h b (by simp)).2
        omega
      · rw [if_neg (by omega), if_neg (by omega)]
        have e : wrap64 (wrap64 (10 * (acc : Int)) + ((b.toNat : Int) - 48) % 256) = ((10 * acc + (b.toNat - 48) : Nat) : Int) := by
          rw [b_wrap (10 * (acc : Int)) (by omega) (by omega), b_wrap _ (by omega) (by omega)]; omega
        rw [e]
        have hdig : dig b := ⟨by omega, by omega⟩
        obtain ⟨g1, g2⟩ := ih k (i + 1) (10 * acc + (b.toNat - 48)) (by omega) (by omega) (by omega) (by rw [Nat.pow_succ]; omega)
        refine ⟨fun h => ?_, fun h => ?_⟩
        · rw [g1 (fun x hx => h x (by simp [hx]))]; rfl
        · refine g2 (fun q => h (fun x hx => ?_))
          rcases List.mem_cons.1 hx with rfl | hx
          · exact hdig
          · exact q x hx
theorem l01Number_t (a : ByteArray) (k : Nat) (hk : 30 ≤ k) : (good a.data.toList → spec_l01Number.f k a = some (((spell 0 a.data.toList : Nat) : Int), true)) ∧ (¬ good a.data.toList → spec_l01Number.f k a = some (0, false)) := by
  obtain ⟨k, rfl⟩ : ∃ m, k = m + 1 := ⟨k - 1, by omega⟩
  unfold spec_l01Number.f
  rw [Lib.toList_data]
  by_cases h0 : a.data.toList = ([] : List UInt8)
  · rw [if_pos h0]
    refine ⟨fun h => absurd h0 h.1, fun _ => ?_⟩
    simp [spec_l01Number.j0]
  · rw [if_neg h0]
    by_cases h1 : (a.size : Int) > 9
    · rw [if_pos h1]
      refine ⟨fun h => ?_, fun _ => by simp [spec_l01Number.j0]⟩
      have := h.2.1
      rw [sz_d] at this
      omega
    · rw [if_neg h1]
      have hs : 0 < a.data.toList.length := List.length_pos_iff.2 h0
      have hs' := hs
      rw [sz_d] at hs'
      rw [if_pos (by omega)]
      have hb := bt_l a 0 hs
      have hb0 : bt a 0 = ((a.data.toList[0]).toNat : Int) := hb
      have hh : a.data.toList.head? = some a.data.toList[0] := by rw [List.head?_eq_getElem?, List.getElem?_eq_getElem hs]
      obtain ⟨g1, g2⟩ := l01Number_l a (by omega) a.size k 0 0 (by omega) (by omega) (by omega) (by decide)
      rw [List.drop_zero] at g1 g2
      have run : ∀ q : (a.data.toList.head? = some 48 → a.data.toList.length = 1), (good a.data.toList → spec_l01Number.l0 k a 0 0 = some (((spell 0 a.data.toList : Nat) : Int), true)) ∧ (¬ good a.data.toList → spec_l01Number.l0 k a 0 0 = some (0, false)) := fun q =>
        ⟨fun h => g1 h.2.2.2, fun h => g2 (fun hd => h ⟨h0, by rw [sz_d]; omega, q, hd⟩)⟩
      rw [hb0]
      by_cases h48 : ((a.data.toList[0]).toNat : Int) = 48
      · rw [if_pos h48]
        have e48 : a.data.toList[0] = 48 := UInt8.toNat_inj.1 (by have e : (48 : UInt8).toNat = 48 := rfl; omega)
        by_cases hl : a.size = 1
        · have hf : decide ((a.size : Int) > 1) = false := decide_eq_false (by omega)
          rw [hf]
          simp only [spec_l01Number.j0, Bool.false_eq_true, if_false]
          exact run (fun _ => by rw [sz_d]; exact hl)
        · have hf : decide ((a.size : Int) > 1) = true := decide_eq_true (by omega)
          rw [hf]
          simp only [spec_l01Number.j0, if_true]
          refine ⟨fun h => ?_, fun _ => trivial⟩
          have := h.2.2.1 (by rw [hh, e48])
          rw [sz_d] at this
          exact absurd this hl
      · rw [if_neg h48]
        simp only [spec_l01Number.j0, Bool.false_eq_true, if_false]
        refine run (fun q => ?_)
        rw [hh] at q
        have : a.data.toList[0] = 48 := Option.some.inj q
        rw [this] at h48
        exact absurd rfl h48
/-- A hexadecimal digit of the model. -/
def xdig (b : UInt8) : Prop := (48 ≤ b.toNat ∧ b.toNat ≤ 57) ∨ (97 ≤ b.toNat ∧ b.toNat ≤ 102)
def xval (b : UInt8) : Nat := if b.toNat ≤ 57 then b.toNat - 48 else b.toNat - 87
/-- What hexadecimal digits spell. -/
def hsp (acc : Nat) (l : List UInt8) : Nat := l.foldl (fun a b => 16 * a + xval b) acc
theorem hsp_nil (acc : Nat) : hsp acc [] = acc := rfl
theorem hsp_cons (acc : Nat) (b : UInt8) (l : List UInt8) : hsp acc (b :: l) = hsp (16 * acc + xval b) l := by unfold hsp; rw [List.foldl_cons]
theorem hsp_snoc (l : List UInt8) (acc : Nat) (b : UInt8) : hsp acc (l ++ [b]) = 16 * hsp acc l + xval b := by unfold hsp; rw [List.foldl_append, List.foldl_cons, List.foldl_nil]
theorem xval_lt (b : UInt8) (h : xdig b) : xval b < 16 := by
  unfold xdig at h
  unfold xval
  split <;> omega
theorem xval_inj (a b : UInt8) (ha : xdig a) (hb : xdig b) (h : xval a = xval b) : a = b := by
  unfold xdig at ha hb
  unfold xval at h
  apply UInt8.toNat_inj.1
  split at h <;> split at h <;> omega
theorem xval_hb (d : Nat) (h : d < 16) : xdig (UInt8.ofNat (hb d)) ∧ xval (UInt8.ofNat (hb d)) = d := by
  have e : (UInt8.ofNat (hb d)).toNat = hb d := by
    rw [UInt8.toNat_ofNat']
    unfold hb
    split <;> omega
  unfold xdig xval
  rw [e]
  unfold hb
  split
  · rw [if_pos (by omega)]; omega
  · rw [if_neg (by omega)]; omega
/-- A text of 16 digits. -/
def good16 (l : List UInt8) : Prop := l.length = 16 ∧ ∀ b ∈ l, xdig b
theorem hex16_good (u : Nat) : good16 (hex16 u) := by
  refine ⟨hex16_len u, fun b hb' => ?_⟩
  unfold hex16 at hb'
  obtain ⟨t, _, rfl⟩ := List.mem_map.1 hb'
  exact (xval_hb _ (Nat.mod_lt _ (by decide))).1
theorem hex_take' (x m : Nat) (hm : m < 16) : (hex16 x).take (m + 1) = (hex16 x).take m ++ [UInt8.ofNat (hb (x / 16 ^ (15 - m) % 16))] := by
  have hl : m < (hex16 x).length := by rw [hex16_len]; exact hm
  rw [List.take_succ_eq_append_getElem hl]
  congr 2
  simp [hex16]
theorem hsp_hex16 (u : Nat) (hu : u < 18446744073709551616) : hsp 0 (hex16 u) = u := by
  have key : ∀ m, m ≤ 16 → hsp 0 ((hex16 u).take m) = u / 16 ^ (16 - m) := by
    intro m
    induction m with
    | zero =>
      intro _
      rw [List.take_zero, hsp_nil]
      have e : (16 : Nat) ^ (16 - 0) = 18446744073709551616 := by decide
      rw [e]
      exact (Nat.div_eq_of_lt hu).symm
    | succ m ih =>
      intro hm
      rw [hex_take' u m (by omega), hsp_snoc, ih (by omega), (xval_hb _ (Nat.mod_lt _ (by decide))).2]
      have e1 : 16 - m = (15 - m) + 1 := by omega
      have e2 : 16 - (m + 1) = 15 - m := by omega
      rw [e1, e2, Nat.pow_succ, ← Nat.div_div_eq_div_mul]
      omega
  have := key 16 (Nat.le_refl _)
  rw [List.take_of_length_le (by rw [hex16_len]; exact Nat.le_refl _)] at this
  rw [this]
  exact Nat.div_one u
theorem hsp_inj : ∀ (l m : List UInt8) (a a' : Nat), l.length = m.length → (∀ b ∈ l, xdig b) → (∀ b ∈ m, xdig b) → hsp a l = hsp a' m → a = a' ∧ l = m
  | [], [], a, a', _, _, _, h => ⟨h, rfl⟩
  | [], _ :: _, _, _, h, _, _, _ => by simp at h
  | _ :: _, [], _, _, h, _, _, _ => by simp at h
  | x :: l, y :: m, a, a', h, hl, hm, he => by
    rw [hsp_cons, hsp_cons] at he
    obtain ⟨e1, e2⟩ := hsp_inj l m _ _ (by simpa using h) (fun b hb => hl b (by simp [hb])) (fun b hb => hm b (by simp [hb])) he
    have hx := hl x (by simp)
    have hy := hm y (by simp)
    have := xval_lt x hx
    have := xval_lt y hy
    have e3 : xval x = xval y := by omega
    exact ⟨by omega, by rw [xval_inj x y hx hy e3, e2]⟩
theorem hsp_lt : ∀ (l : List UInt8) (a : Nat), (∀ b ∈ l, xdig b) → hsp a l < (a + 1) * 16 ^ l.length
  | [], a, _ => by rw [hsp_nil, List.length_nil, Nat.pow_zero]; omega
  | b :: l, a, h => by
    rw [hsp_cons, List.length_cons, Nat.pow_succ]
    have ih := hsp_lt l (16 * a + xval b) (fun x hx => h x (by simp [hx]))
    have hb := xval_lt b (h b (by simp))
    have e : (a + 1) * (16 ^ l.length * 16) = (16 * a + 16) * 16 ^ l.length := by
      rw [Nat.mul_comm (16 ^ l.length) 16, ← Nat.mul_assoc]
      congr 1
      omega
    rw [e]
    exact Nat.lt_of_lt_of_le ih (Nat.mul_le_mul_right _ (by omega))
theorem good16_lt (l : List UInt8) (h : good16 l) : hsp 0 l < 18446744073709551616 := by
  have := hsp_lt l 0 h.2
  rw [h.1] at this
  have e : (0 + 1) * 16 ^ 16 = 18446744073709551616 := by decide
  omega
theorem good16_hex (l : List UInt8) (h : good16 l) : hex16 (hsp 0 l) = l := by
  have g := hex16_good (hsp 0 l)
  exact (hsp_inj _ _ 0 0 (by rw [g.1, h.1]) g.2 h.2 (hsp_hex16 _ (good16_lt l h))).2
theorem or_low (q e : Nat) (he : e < 16) : 16 * q ||| e = 16 * q + e := by
  have := Nat.two_pow_add_eq_or_of_lt (i := 4) (b := e) (by omega) q
  rw [show (2 : Nat) ^ 4 = 16 by decide] at this
  exact this.symm
theorem u64_n (n : Nat) (h : n < 18446744073709551616) : IntKind.u64.wrap (n : Int) = (n : Int) := by
  rw [IntKind.wrap_u64]
  omega
/-- The model's reading of hexadecimal digits. -/
theorem l05Hex_l (a : ByteArray) (ha : a.size ≤ 1048576) (d : Nat) : ∀ (k i acc : Nat), a.size - i = d → 2 * d + 2 ≤ k → i ≤ a.size → acc < 18446744073709551616 →
    ∃ (v : Nat) (b : Bool), spec_l05Hex.l0 k a (acc : Int) (i : Int) = some ((v : Int), b) ∧ v < 18446744073709551616 ∧ (b = true ↔ ((∀ c ∈ a.data.toList.drop i, xdig c) ∧ a.size = 16)) ∧ ((∀ c ∈ a.data.toList.drop i, xdig c) → (acc + 1) * 16 ^ d ≤ 18446744073709551616 → v = hsp acc (a.data.toList.drop i)) := by
  induction d with
  | zero =>
    intro k i acc hd hk hi hacc
    obtain ⟨k, rfl⟩ : ∃ m, k = m + 1 := ⟨k - 1, by omega⟩
    have e : a.data.toList.drop i = [] := List.drop_of_length_le (by rw [sz_d]; omega)
    rw [e]
    simp only [spec_l05Hex.l0]
    rw [if_neg (by omega)]
    refine ⟨acc, _, rfl, hacc, ?_, fun _ _ => rfl⟩
    rw [beq_iff_eq]
    constructor
    · intro h; exact ⟨by simp, by omega⟩
    · intro h; omega
  | succ d ih =>
    intro k i acc hd hk hi hacc
    obtain ⟨k, rfl⟩ : ∃ m, k = m + 2 := ⟨k - 2, by omega⟩
    have hlt : i < a.data.toList.length := by rw [sz_d]; omega
    have w : wrap64 ((i : Int) + 1) = ((i + 1 : Nat) : Int) := by rw [b_wrap _ (by omega) (by omega)]; omega
    have hdr : a.data.toList.drop i = a.data.toList[i] :: a.data.toList.drop (i + 1) := List.drop_eq_getElem_cons hlt
    obtain ⟨b, hb⟩ : ∃ b, b = a.data.toList[i] := ⟨_, rfl⟩
    rw [hdr]
    simp only [spec_l05Hex.l0]
    rw [if_pos (by omega), if_pos (by omega), bt_l a i hlt, ← hb]
    have hbb := b.toNat_lt
    have e16 : IntKind.u64.wrap ((acc : Int) * 16) = ((16 * (acc % 1152921504606846976) : Nat) : Int) := by
      rw [IntKind.wrap_u64]
      omega
    have go : ∀ e : Nat, e = xval b → xdig b → (∃ (v : Nat) (r : Bool), spec_l05Hex.l0 k a ((16 * (acc % 1152921504606846976) + e : Nat) : Int) ((i + 1 : Nat) : Int) = some ((v : Int), r) ∧ v < 18446744073709551616 ∧ (r = true ↔ ((∀ c ∈ b :: a.data.toList.drop (i + 1), xdig c) ∧ a.size = 16)) ∧ ((∀ c ∈ b :: a.data.toList.drop (i + 1), xdig c) → (acc + 1) * 16 ^ (d + 1) ≤ 18446744073709551616 → v = hsp acc (b :: a.data.toList.drop (i + 1)))) := by
      intro e he hx
      have hv := xval_lt b hx
      obtain ⟨v, r, h1, h2, h3, h4⟩ := ih k (i + 1) (16 * (acc % 1152921504606846976) + e) (by omega) (by omega) (by omega) (by omega)
      refine ⟨v, r, h1, h2, ?_, ?_⟩
      · rw [h3]
        constructor
        · intro ⟨q1, q2⟩
          refine ⟨fun c hc => ?_, q2⟩
          rcases List.mem_cons.1 hc with rfl | hc
          · exact hx
          · exact q1 c hc
        · intro ⟨q1, q2⟩
          exact ⟨fun c hc => q1 c (by simp [hc]), q2⟩
      · intro q1 q2
        have p1 : 1 ≤ 16 ^ d := Nat.pow_pos (by decide)
        have q3 : (acc + 1) * 16 * 16 ^ d ≤ 18446744073709551616 := by rw [Nat.mul_assoc, Nat.mul_comm 16, ← Nat.pow_succ]; exact q2
        have q4 : (acc + 1) * 16 ≤ 18446744073709551616 := Nat.le_trans (Nat.le_mul_of_pos_right _ p1) q3
        have em : acc % 1152921504606846976 = acc := Nat.mod_eq_of_lt (by omega)
        rw [em] at h4
        rw [hsp_cons, h4 (fun c hc => q1 c (by simp [hc])) (Nat.le_trans (Nat.mul_le_mul_right _ (by omega)) q3), he]
    simp only [spec_l05Hex.j1, w]
    by_cases h1 : b.toNat < 48
    · rw [if_neg (by omega)]
      simp only [Bool.false_eq_true, if_false]
      rw [if_neg (by omega)]
      refine ⟨0, false, rfl, by omega, ?_, ?_⟩
      · constructor
        · intro h; cases h
        · intro ⟨q, _⟩
          have := q b (by simp)
          unfold xdig at this
          omega
      · intro q _
        have := q b (by simp)
        unfold xdig at this
        omega
    · rw [if_pos (by omega)]
      by_cases h2 : b.toNat ≤ 57
      · have hx : xdig b := Or.inl ⟨by omega, h2⟩
        rw [if_pos (by simp; omega)]
        have e : Go.bits .or .u64 (IntKind.u64.wrap ((acc : Int) * 16)) (((b.toNat : Int) - 48) % 256) = ((16 * (acc % 1152921504606846976) + (b.toNat - 48) : Nat) : Int) := by
          rw [e16, show ((b.toNat : Int) - 48) % 256 = ((b.toNat - 48 : Nat) : Int) by omega, bits_or_u64_nat _ _ (by omega) (by omega), or_low _ _ (by omega)]
        rw [e]
        exact go (b.toNat - 48) (by unfold xval; rw [if_pos h2]) hx
      · rw [if_neg (by simp; omega)]
        by_cases h3 : 97 ≤ b.toNat ∧ b.toNat ≤ 102
        · have hx : xdig b := Or.inr h3
          rw [if_pos (by omega), if_pos (by omega)]
          have e : IntKind.u64.wrap (Go.bits .or .u64 (IntKind.u64.wrap ((acc : Int) * 16)) (((b.toNat : Int) - 97) % 256) + 10) = ((16 * (acc % 1152921504606846976) + (b.toNat - 87) : Nat) : Int) := by
            rw [e16, show ((b.toNat : Int) - 97) % 256 = ((b.toNat - 97 : Nat) : Int) by omega, bits_or_u64_nat _ _ (by omega) (by omega), or_low _ _ (by omega), ← u64_n _ (show 16 * (acc % 1152921504606846976) + (b.toNat - 87) < 18446744073709551616 by omega)]
            congr 1
            omega
          rw [e]
          exact go (b.toNat - 87) (by unfold xval; rw [if_neg h2]) hx
        · have no : ¬ xdig b := by unfold xdig; omega
          have fin : ∃ (v : Nat) (r : Bool), (some ((0 : Int), false) : Option (Int × Bool)) = some ((v : Int), r) ∧ v < 18446744073709551616 ∧ (r = true ↔ ((∀ c ∈ b :: a.data.toList.drop (i + 1), xdig c) ∧ a.size = 16)) ∧ ((∀ c ∈ b :: a.data.toList.drop (i + 1), xdig c) → (acc + 1) * 16 ^ (d + 1) ≤ 18446744073709551616 → v = hsp acc (b :: a.data.toList.drop (i + 1))) := by
            refine ⟨0, false, rfl, by omega, ?_, ?_⟩
            · constructor
              · intro h; cases h
              · intro ⟨q, _⟩; exact absurd (q b (by simp)) no
            · intro q _; exact absurd (q b (by simp)) no
          by_cases h4 : 97 ≤ b.toNat
          · rw [if_pos (by omega), if_neg (by omega)]; exact fin
          · rw [if_neg (by omega)]; exact fin
theorem l05Hex_t (a : ByteArray) (ha : a.size ≤ 1048576) (k : Nat) (hk : 2 * a.size + 2 ≤ k) : ∃ (v : Nat) (b : Bool), spec_l05Hex.f k a = some ((v : Int), b) ∧ v < 18446744073709551616 ∧ (b = true ↔ good16 a.data.toList) ∧ (good16 a.data.toList → v = hsp 0 a.data.toList) := by
  obtain ⟨v, b, h1, h2, h3, h4⟩ := l05Hex_l a ha a.size k 0 0 (by omega) hk (by omega) (by omega)
  rw [List.drop_zero] at h3 h4
  refine ⟨v, b, h1, h2, ?_, fun g => h4 g.2 ?_⟩
  · rw [h3]
    unfold good16
    rw [sz_d]
    exact And.comm
  · have := g.1
    rw [sz_d] at this
    rw [this]
    decide
/-- A line of a grid's text: a place and its row. -/
def Line (l : List UInt8) (x b : Nat) : Prop := l = Lib.decDigits x ++ 32 :: hex16 b ∧ x < 1000000000 ∧ b < 18446744073709551616
theorem ndig32 : ¬ dig 32 := fun h => by unfold dig at h; have e : (32 : UInt8).toNat = 32 := rfl; omega
theorem ndig10 : ¬ dig 10 := fun h => by unfold dig at h; have e : (10 : UInt8).toNat = 10 := rfl; omega
theorem nx32 (u : Nat) : (32 : UInt8) ∉ hex16 u := fun h => by have := (hex16_good u).2 _ h; unfold xdig at this; have e : (32 : UInt8).toNat = 32 := rfl; omega
theorem nx10 (u : Nat) : (10 : UInt8) ∉ hex16 u := fun h => by have := (hex16_good u).2 _ h; unfold xdig at this; have e : (10 : UInt8).toNat = 10 := rfl; omega
theorem line_words {l p q : List UInt8} (h : sp 32 l = [p, q]) (hp : good p) (hq : good16 q) : Line l (spell 0 p) (hsp 0 q) := by
  refine ⟨?_, good_val p hp, good16_lt q hq⟩
  rw [good_dec p hp, good16_hex q hq, ← sp_join 32 l, h]
  rfl
theorem line_sp {l : List UInt8} {x b : Nat} (h : Line l x b) : sp 32 l = [Lib.decDigits x, hex16 b] := by
  rw [h.1, sp_app 32 _ (no32 x 32 ndig32), sp_one 32 _ (nx32 b)]
theorem line_uniq {l : List UInt8} {x b x' b' : Nat} (h : Line l x b) (h' : Line l x' b') : x = x' ∧ b = b' := by
  have e := (line_sp h).symm.trans (line_sp h')
  obtain ⟨e1, e2⟩ := List.cons.inj e
  obtain ⟨e2, _⟩ := List.cons.inj e2
  refine ⟨?_, ?_⟩
  · rw [← (dd x).2.1, e1, (dd x').2.1]
  · rw [← hsp_hex16 b h.2.2, e2, hsp_hex16 b' h'.2.2]
theorem line_10 {l : List UInt8} {x b : Nat} (h : Line l x b) : (10 : UInt8) ∉ l := by
  rw [h.1]
  intro hc
  rcases List.mem_append.1 hc with hc | hc
  · exact no32 x 10 ndig10 hc
  · rcases List.mem_cons.1 hc with hc | hc
    · exact absurd hc (by decide)
    · exact nx10 b hc
/-- The model's reading of the lines, from a grid on. -/
def sfp : List (List UInt8) → List Int → Int → List Int → Prop
  | [], G, _, R => R = G
  | l :: ls, G, last, R => ∃ x b : Nat, Line l x b ∧ last < (x : Int) ∧ x < 64 ∧ b ≠ 0 ∧ sfp ls (G.set x (b : Int)) (x : Int) R
theorem sfp_cons {l : List UInt8} {ls : List (List UInt8)} {G R : List Int} {last : Int} {x b : Nat} (h : Line l x b) (h1 : last < (x : Int)) (h2 : x < 64) (h3 : b ≠ 0) : sfp (l :: ls) G last R ↔ sfp ls (G.set x (b : Int)) (x : Int) R := by
  constructor
  · rintro ⟨x', b', h', _, _, _, q⟩
    obtain ⟨rfl, rfl⟩ := line_uniq h h'
    exact q
  · intro q
    exact ⟨x, b, h, h1, h2, h3, q⟩
theorem sfp_not {l : List UInt8} {ls : List (List UInt8)} {G R : List Int} {last : Int} (h : ∀ x b : Nat, Line l x b → last < (x : Int) → x < 64 → b = 0) : ¬ sfp (l :: ls) G last R := by
  rintro ⟨x, b, h', h1, h2, h3, _⟩
  exact h3 (h x b h' h1 h2)
/-- What a line does to the program's grid. -/
def istep (G : List Int) (l : List UInt8) : List Int := if (Lib.cut l [32]).2.2 = true ∧ (numRes (Lib.cut l [32]).1).2 = true ∧ 0 ≤ (numRes (Lib.cut l [32]).1).1 ∧ (numRes (Lib.cut l [32]).1).1 < 64 then G.set (numRes (Lib.cut l [32]).1).1.toNat (((ux 0 (Lib.cut l [32]).2.1).getD 0 : Nat) : Int) else G
theorem indexByte_app (c : UInt8) : ∀ (p q : List UInt8), c ∉ p → Lib.indexByte (p ++ c :: q) c = (p.length : Int)
  | [], q, _ => by rw [List.nil_append, Lib.indexByte]; simp
  | b :: p, q, h => by
    have hb : (b == c) = false := beq_eq_false_iff_ne.2 (fun e => h (by simp [e]))
    rw [List.cons_append, Lib.indexByte, hb, indexByte_app c p q (fun e => h (by simp [e]))]
    simp only [Bool.false_eq_true, if_false]
    rw [if_neg (by rw [beq_iff_eq]; omega), List.length_cons]
    omega
theorem cut_app (p q : List UInt8) (h : (32 : UInt8) ∉ p) : Lib.cut (p ++ 32 :: q) [32] = (p, q, true) := by
  unfold Lib.cut
  rw [Lib.index_one, indexByte_app 32 p q h, if_pos (by omega), Int.toNat_natCast, List.take_left]
  congr 2
  rw [List.length_singleton, show p ++ 32 :: q = (p ++ [32]) ++ q by simp]
  exact List.drop_left' (by simp)
theorem hexd_x (b : UInt8) (h : xdig b) : hexd (b.toNat : Int) = some (xval b) := by
  unfold hexd xval
  rcases h with h | h
  · rw [if_pos (by omega), if_pos h.2]
    congr 1
    omega
  · have e : Go.bits .or .u8 (b.toNat : Int) 32 = (b.toNat : Int) := by
      have : b.toNat = 97 ∨ b.toNat = 98 ∨ b.toNat = 99 ∨ b.toNat = 100 ∨ b.toNat = 101 ∨ b.toNat = 102 := by omega
      rcases this with e | e | e | e | e | e <;> (rw [e]; decide)
    rw [if_neg (by omega), e, if_pos (by omega), if_neg (by omega)]
    congr 1
    omega
theorem ux_x : ∀ (l : List UInt8) (a : Nat), (∀ b ∈ l, xdig b) → (a + 1) * 16 ^ l.length ≤ 18446744073709551616 → ux a l = some (hsp a l)
  | [], a, _, _ => rfl
  | b :: l, a, h, hn => by
    have hx := h b (by simp)
    have hv := xval_lt b hx
    have p1 : 1 ≤ 16 ^ l.length := Nat.pow_pos (by decide)
    have q3 : (a + 1) * 16 * 16 ^ l.length ≤ 18446744073709551616 := by rw [Nat.mul_assoc, Nat.mul_comm 16, ← Nat.pow_succ]; exact hn
    have q4 : (a + 1) * 16 ≤ 18446744073709551616 := Nat.le_trans (Nat.le_mul_of_pos_right _ p1) q3
    have hs : ustep a b = some (16 * a + xval b) := by
      unfold ustep
      rw [hexd_x b hx]
      show (if _ then _ else _) = _
      rw [if_pos (by omega)]
      congr 1
      omega
    rw [ux_some _ _ _ _ hs, hsp_cons]
    exact ux_x l _ (fun c hc => h c (by simp [hc])) (Nat.le_trans (Nat.mul_le_mul_right _ (by omega)) q3)
theorem ux_hex16 (u : Nat) (hu : u < 18446744073709551616) : ux 0 (hex16 u) = some u := by
  rw [ux_x _ 0 (hex16_good u).2 (by rw [hex16_len]; decide), hsp_hex16 u hu]
theorem istep_line {G : List Int} {l : List UInt8} {x b : Nat} (h : Line l x b) (hx : x < 64) : istep G l = G.set x (b : Int) := by
  have e : Lib.cut l [32] = (Lib.decDigits x, hex16 b, true) := by rw [h.1]; exact cut_app _ _ (no32 x 32 ndig32)
  unfold istep
  rw [e]
  simp only
  rw [numRes_dec x h.2.1, ux_hex16 b h.2.2, if_pos (by simp; omega)]
  rfl
theorem istep_nil (G : List Int) : istep G [] = G := by
  unfold istep
  have e : Lib.cut [] [32] = ([], [], false) := by decide
  rw [e]
  exact if_neg (fun h => absurd h.1 (by decide))
theorem grid_set {G : List Int} (h : Grid G) (x b : Nat) (hb : b < 18446744073709551616) : Grid (G.set x (b : Int)) := by
  refine ⟨by rw [List.length_set]; exact h.1, fun y hy => ?_⟩
  rcases List.mem_or_eq_of_mem_set hy with hy | rfl
  · exact h.2 y hy
  · omega
theorem gpre_lo (G : List Int) (x : Nat) (v : Int) : ∀ n, n ≤ x → gpre (G.set x v) n = gpre G n
  | 0, _ => rfl
  | n + 1, h => by
    rw [gpre, gpre, gpre_lo G x v n (by omega)]
    congr 1
    unfold gcell
    have e : (G.set x v).getD n 0 = G.getD n 0 := by
      rw [List.getD_eq_getElem?_getD, List.getD_eq_getElem?_getD, List.getElem?_set_ne (by omega)]
    rw [e]
theorem gpre_hi (G : List Int) (x : Nat) (h : ∀ i, x ≤ i → G.getD i 0 = 0) : ∀ n, gpre G (x + n) = gpre G x
  | 0 => rfl
  | n + 1 => by
    rw [← Nat.add_assoc, gpre, gpre_hi G x h n]
    unfold gcell
    rw [if_pos (h _ (by omega)), List.append_nil]
theorem gpre_set {G : List Int} (n x b : Nat) (hx : x < n) (hn : n ≤ G.length) (hb : b ≠ 0) (h : ∀ i, x ≤ i → G.getD i 0 = 0) : gpre (G.set x (b : Int)) n = gpre G n ++ (Lib.decDigits x ++ 32 :: hex16 b ++ [10]) := by
  have e1 : (G.set x (b : Int)).getD x 0 = (b : Int) := by
    rw [List.getD_eq_getElem?_getD, List.getElem?_set_self (by omega)]
    rfl
  have e2 : ∀ i, x + 1 ≤ i → (G.set x (b : Int)).getD i 0 = 0 := by
    intro i hi
    rw [List.getD_eq_getElem?_getD, List.getElem?_set_ne (by omega), ← List.getD_eq_getElem?_getD]
    exact h i (by omega)
  obtain ⟨m, rfl⟩ : ∃ m, n = x + 1 + m := ⟨n - (x + 1), by omega⟩
  have e4 : gpre G (x + 1 + m) = gpre G x := by
    rw [Nat.add_assoc]
    exact gpre_hi G x h (1 + m)
  have ec : gcell (G.set x (b : Int)) x = Lib.decDigits x ++ 32 :: hex16 b ++ [10] := by
    unfold gcell
    rw [e1, if_neg (by omega), Lib.itoa_nonneg, Int.toNat_natCast, List.append_assoc (Lib.decDigits x) [32]]
    rfl
  rw [gpre_hi _ _ e2 m, e4, gpre, gpre_lo G x _ x (Nat.le_refl _), ec]
/-- What the model accepts, the program reads as the model does, and its text is the text read. -/
theorem specA : ∀ (M : List (List UInt8)) (G : List Int) (last : Int) (R : List Int), Grid G → (∀ i : Nat, last < (i : Int) → G.getD i 0 = 0) → sfp M G last R → Grid R ∧ M.foldl istep G = R ∧ gpre R 64 = gpre G 64 ++ M.flatMap (· ++ [10]) ∧ ∀ l ∈ M, (10 : UInt8) ∉ l
  | [], G, last, R, hg, _, h => by
    obtain rfl : R = G := h
    exact ⟨hg, rfl, by simp, by simp⟩
  | l :: M, G, last, R, hg, hz, h => by
    obtain ⟨x, b, hl, h1, h2, h3, h4⟩ := h
    have hlen := hg.1
    obtain ⟨i1, i2, i3, i4⟩ := specA M (G.set x (b : Int)) (x : Int) R (grid_set hg x b hl.2.2) (by
      intro i hi
      rw [List.getD_eq_getElem?_getD, List.getElem?_set_ne (by omega), ← List.getD_eq_getElem?_getD]
      exact hz i (by omega)) h4
    refine ⟨i1, ?_, ?_, ?_⟩
    · rw [List.foldl_cons, istep_line hl h2, i2]
    · rw [i3, gpre_set 64 x b h2 (by omega) h3 (fun i hi => hz i (by omega)), List.flatMap_cons, hl.1]
      simp
    · intro m hm
      rcases List.mem_cons.1 hm with rfl | hm
      · exact line_10 hl
      · exact i4 m hm
/-- The lines of a grid's last rows. -/
def lr (G : List Int) : Nat → List (List UInt8)
  | 0 => []
  | k + 1 => (if G.getD (63 - k) 0 = 0 then [] else [Lib.decDigits (63 - k) ++ 32 :: hex16 (G.getD (63 - k) 0).toNat]) ++ lr G k
theorem lr_gpre (G : List Int) : ∀ k, k ≤ 64 → gpre G (64 - k) ++ (lr G k).flatMap (· ++ [10]) = gpre G 64
  | 0, _ => by simp [lr]
  | k + 1, h => by
    rw [← lr_gpre G k (by omega), lr, List.flatMap_append, ← List.append_assoc]
    congr 1
    rw [show 64 - k = (64 - (k + 1)) + 1 by omega, gpre]
    congr 1
    unfold gcell
    rw [show 64 - (k + 1) = 63 - k by omega]
    by_cases e : G.getD (63 - k) 0 = 0
    · rw [if_pos e, if_pos e]; rfl
    · rw [if_neg e, if_neg e, Lib.itoa_nonneg]
      simp
theorem lr_10 (G : List Int) : ∀ k, ∀ l ∈ lr G k, (10 : UInt8) ∉ l
  | 0, l, h => by simp [lr] at h
  | k + 1, l, h => by
    rw [lr] at h
    rcases List.mem_append.1 h with h | h
    · split at h
      · simp at h
      · obtain rfl := List.mem_singleton.1 h
        intro hc
        rcases List.mem_append.1 hc with hc | hc
        · exact no32 _ 10 ndig10 hc
        · rcases List.mem_cons.1 hc with hc | hc
          · exact absurd hc (by decide)
          · exact nx10 _ hc
    · exact lr_10 G k l h
theorem lr_sfp (G : List Int) (hg : Grid G) : ∀ (k : Nat) (last : Int), k ≤ 64 → last < (64 - k : Nat) → sfp (lr G k) (G.take (64 - k) ++ List.replicate k 0) last G
  | 0, last, _, _ => by
    show G = _
    rw [List.replicate_zero, List.append_nil, List.take_of_length_le (by have := hg.1; omega)]
  | k + 1, last, h, hlast => by
    have hl := hg.1
    have hi : 63 - k < G.length := by omega
    have e64 : 64 - k = (63 - k) + 1 := by omega
    have e63 : 64 - (k + 1) = 63 - k := by omega
    have hgd : G.getD (63 - k) 0 = G[63 - k] := by rw [List.getD_eq_getElem?_getD, List.getElem?_eq_getElem hi]; rfl
    have ih := lr_sfp G hg k
    rw [e64, List.take_succ_eq_append_getElem hi] at ih
    rw [lr, e63]
    by_cases e : G.getD (63 - k) 0 = 0
    · rw [if_pos e, List.nil_append]
      have := ih last (by omega) (by omega)
      rw [← hgd, e] at this
      rw [List.replicate_succ, ← List.singleton_append, ← List.append_assoc]
      exact this
    · rw [if_neg e, List.singleton_append]
      have hb := grid_b G hg (63 - k) (by omega)
      obtain ⟨b, hbe⟩ : ∃ b : Nat, (b : Int) = G.getD (63 - k) 0 := ⟨(G.getD (63 - k) 0).toNat, by omega⟩
      refine ⟨63 - k, b, ⟨by rw [← hbe, Int.toNat_natCast], by omega, by omega⟩, by omega, by omega, by omega, ?_⟩
      have := ih ((63 - k : Nat) : Int) (by omega) (by omega)
      have es : (G.take (63 - k) ++ List.replicate (k + 1) 0).set (63 - k) (b : Int) = G.take (63 - k) ++ [G[63 - k]] ++ List.replicate k 0 := by
        have et : (G.take (63 - k)).length = 63 - k := by rw [List.length_take]; omega
        rw [List.set_append_right _ _ (by omega), et, Nat.sub_self, List.replicate_succ, List.set_cons_zero, List.append_assoc, hbe, hgd]
        rfl
      rw [es]
      exact this
theorem sp_lines (c : UInt8) : ∀ (M : List (List UInt8)), (∀ l ∈ M, c ∉ l) → sp c (M.flatMap (· ++ [c])) = M ++ [[]]
  | [], _ => rfl
  | l :: M, h => by
    rw [List.flatMap_cons, List.append_assoc, List.singleton_append, sp_app c l (h l (by simp)), sp_lines c M (fun x hx => h x (by simp [hx]))]
    rfl
theorem jn_lines (c : UInt8) : ∀ (M : List (List UInt8)), jn c (M ++ [[]]) = M.flatMap (· ++ [c])
  | [] => rfl
  | l :: M => by
    have ih := jn_lines c M
    rw [List.flatMap_cons, ← ih]
    cases M with
    | nil => simp [jn]
    | cons m M => simp [jn]
abbrev Z64 : List Int := List.replicate 64 0
theorem grid_z : Grid Z64 := ⟨rfl, fun x hx => by obtain rfl := List.eq_of_mem_replicate hx; omega⟩
/-- The model's answer to a text. -/
def Acc (t : List UInt8) (R : List Int) : Prop := ∃ M, sp 10 t = M ++ [[]] ∧ sfp M Z64 (-1) R
theorem z_getD (i : Nat) : Z64.getD i 0 = 0 := by
  rw [List.getD_eq_getElem?_getD, List.getElem?_replicate]
  split <;> rfl
theorem acc_impl (t : List UInt8) (R : List Int) (h : Acc t R) : (sp 10 t).foldl istep Z64 = R ∧ gpre R 64 = t ∧ Grid R := by
  obtain ⟨M, h1, h2⟩ := h
  obtain ⟨i1, i2, i3, _⟩ := specA M Z64 (-1) R grid_z (fun i _ => z_getD i) h2
  refine ⟨?_, ?_, i1⟩
  · rw [h1, List.foldl_append, i2, List.foldl_cons, List.foldl_nil, istep_nil]
  · have e : gpre Z64 64 = [] := by
      have := gpre_hi Z64 0 (fun i _ => z_getD i) 64
      rw [Nat.zero_add] at this
      exact this
    rw [i3, e, List.nil_append, ← jn_lines, ← h1, sp_join]
theorem impl_acc (G : List Int) (hg : Grid G) : Acc (gpre G 64) G := by
  refine ⟨lr G 64, ?_, ?_⟩
  · have := lr_gpre G 64 (Nat.le_refl _)
    rw [← this]
    exact sp_lines 10 _ (lr_10 G 64)
  · have := lr_sfp G hg 64 (-1) (Nat.le_refl _) (by omega)
    rw [Nat.sub_self, List.take_zero, List.nil_append] at this
    exact this

end Go.Proofs.YtcfjdpegllnhfaaDoor.RGP
