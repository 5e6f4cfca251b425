/- strconv.ParseUint at base 16 walked, and impl.unhex over it: the number of the digits, or 0. Conditions: the text is no longer than 1048576 bytes; the world holds the library's variables (WF). -/
import Derived.Shelf.Strconv.ToError
import Derived.Shelf.Strconv.ToErrorRange
import Derived.Shelf.Strconv.Lower
import Derived.Lib.AtoiAllMem
import Derived.Test.YtcfjdpegllnhfaaDoorRF
namespace Go.Proofs.YtcfjdpegllnhfaaDoor.UX
open Go.Shelf Go.RowKit Go.Proofs.YtcfjdpegllnhfaaDoorW.PrintWords
set_option linter.unusedVariables false
set_option linter.unusedSimpArgs false
/-- A hexadecimal digit's number. -/
def hexd (c : Int) : Option Nat := if 48 ≤ c ∧ c ≤ 57 then some (c - 48).toNat else if 97 ≤ bits .or .u8 c 32 ∧ bits .or .u8 c 32 ≤ 102 then some (bits .or .u8 c 32 - 87).toNat else none
def ustep (n : Nat) (c : UInt8) : Option Nat := match hexd (c.toNat : Int) with
  | none => none
  | some d => if n < 1152921504606846976 then some (n * 16 + d) else none
def ux : Nat → List UInt8 → Option Nat
  | n, [] => some n
  | n, c :: r => match ustep n c with
    | none => none
    | some m => ux m r
theorem ux_none (n : Nat) (c : UInt8) (r : List UInt8) (h : ustep n c = none) : ux n (c :: r) = none := by rw [ux, h]
theorem ux_some (n m : Nat) (c : UInt8) (r : List UInt8) (h : ustep n c = some m) : ux n (c :: r) = ux m r := by rw [ux, h]
theorem lower_w (c : Int) (w : World) : Calls Tryd.prog 104 #[.int .u8 c] w fun e w' => e = .returned (.int .u8 (bits .or .u8 c 32)) ∧ w' = w := Any.internal_strconv_lower (ρ := Tryd.laysC174_ren) { Tryd.laysC174 with } c w
/-- What the inner ParseUint gives. -/
def UR (o : Option Nat) (e : Ending) : Prop := (∃ v : Nat, o = some v ∧ v < 18446744073709551616 ∧ e = .returned (.tuple #[.int .u64 (v : Int), .nilIface])) ∨ (o = none ∧ ∃ x k : Int, (k = 1 ∨ k = 2) ∧ e = .returned (.tuple #[.int .u64 x, .iface 114 (.int .i64 k)]))
theorem ur_none {o : Option Nat} {e : Ending} (h : o = none) (x k : Int) (hk : k = 1 ∨ k = 2) (he : e = .returned (.tuple #[.int .u64 x, .iface 114 (.int .i64 k)])) : UR o e := Or.inr ⟨h, x, k, hk, he⟩
set_option maxHeartbeats 32000000 in
set_option maxRecDepth 100000 in
theorem inner16 (t : ByteArray) (hne : t.size ≠ 0) (hmax : t.size ≤ 1048576) (w : World) :
    Calls Tryd.prog 87 #[.string t, .int .i64 16, .int .i64 64] w fun e w' => UR (ux 0 t.data.toList) e ∧ w' = Lib.bytesWorld w 5 t := by
  have hemp : t.toList.isEmpty = false := by
    rw [← decide_eq_emptyBytes]
    exact decide_eq_false (fun h => hne (by rw [h]; rfl))
  have hcv := Lib.run_convert_string_bytes (P := Tryd.prog) w 9 67 5 t (u := .string) Tryd.underlying9 Tryd.underlying67 Tryd.underlying5
  have hB : ∀ j, j < t.size → (Lib.bytesWorld w 5 t).cell? ⟨w.heap.size, j, none⟩ = some (.int .u8 (t.data.toList.getD j 0).toNat) := fun j hj => Lib.bytesWorld_cell w 5 t j hj
  obtain ⟨W1, hW1⟩ : ∃ W1, W1 = Lib.bytesWorld w 5 t := ⟨_, rfl⟩
  rw [← hW1] at hcv hB ⊢
  clear hW1
  obtain ⟨bs, hL⟩ : ∃ bs, bs = t.data.toList := ⟨_, rfl⟩
  have hLn : bs.length = t.size := by rw [hL, Lib.size_eq]
  rw [← hL] at hB ⊢
  clear hL
  obtain ⟨U, hU⟩ : ∃ U, U = ux 0 bs := ⟨_, rfl⟩
  rw [← hU]
  have HU := Aside0.mk hU
  clear hU
  have hmv : IntKind.u64.wrap (IntKind.u64.wrap 18446744073709551616 - 1) = 18446744073709551615 := by
    rw [IntKind.wrap_u64, IntKind.wrap_u64]
    decide
  go_enter Tryd.func87, Tryd.ntmps87
  go_wp2
  go_loop [12, 13, 101] (fun vu vn vi => ∃ (k acc : Nat) (a : Int), vu = .bool false ∧ vn = .int .u64 a ∧ vi = .int .i64 k ∧ k ≤ t.size ∧ Aside0 (a = (acc : Int) ∧ acc < 18446744073709551616 ∧ U = ux acc (bs.drop k)))
    (fun _ _ vi => t.size - (intOf vi).toNat)
  case atStart => exact ⟨0, 0, 0, rfl, rfl, rfl, by omega, ⟨rfl, by omega, HU.out⟩⟩
  case round =>
    obtain ⟨k, acc, a, rfl, rfl, rfl, hk, hh⟩ := hrel
    obtain ⟨ha, hacc, hdec⟩ := hh.out
    clear hh HU
    have a0 : 0 ≤ a := by omega
    have a1 : a < 18446744073709551616 := by omega
    by_cases hkn : k < t.size
    · have hc := hB k hkn
      have hdrop : bs.drop k = bs[k]'(by omega) :: bs.drop (k + 1) := List.drop_eq_getElem_cons (by omega)
      have hget : bs.getD k 0 = bs[k]'(by omega) := by simp [List.getD, List.getElem?_eq_getElem (show k < bs.length by omega)]
      rw [hdrop] at hdec
      rw [hget] at hc
      generalize bs[k]'(by omega) = c at hc hdec
      have hc256 : c.toNat < 256 := c.toNat_lt
      clear hB hdrop hget
      by_cases hdig : 48 ≤ c.toNat ∧ c.toNat ≤ 57
      · obtain ⟨hd0, hd1⟩ := hdig
        have hx : hexd (c.toNat : Int) = some (c.toNat - 48) := by
          unfold hexd
          rw [if_pos (by omega)]
          congr 1
          omega
        by_cases hcut : acc < 1152921504606846976
        · have hs : ustep acc c = some (acc * 16 + (c.toNat - 48)) := by
            unfold ustep
            rw [hx]
            exact if_pos hcut
          have HN : Aside0 (a * 16 + ((c.toNat : Int) - 48) = ((acc * 16 + (c.toNat - 48) : Nat) : Int) ∧ acc * 16 + (c.toNat - 48) < 18446744073709551616 ∧ U = ux (acc * 16 + (c.toNat - 48)) (bs.drop (k + 1))) := ⟨⟨by omega, by omega, hdec.trans (ux_some _ _ _ _ hs)⟩⟩
          have icut : a < 1152921504606846976 := by omega
          have iov : a * 16 + ((c.toNat : Int) - 48) < 18446744073709551616 := by omega
          clear hcut hacc hs hx hdec ha
          go_wp2
          refine ⟨⟨k + 1, acc * 16 + (c.toNat - 48), a * 16 + ((c.toNat : Int) - 48), rfl, (by first | rfl | (congr 1; omega)), (by first | rfl | (congr 1; omega)), by omega, HN⟩, by simp [intOf]; omega⟩
        · have hs : ustep acc c = none := by
            unfold ustep
            rw [hx]
            exact if_neg hcut
          have HN := Aside0.mk (hdec.trans (ux_none _ _ _ hs))
          have icut : 1152921504606846976 ≤ a := by omega
          clear hcut hacc hs hx hdec ha
          go_wp2
          go_ret2
          exact ⟨ur_none HN.out _ _ (Or.inl rfl) rfl, rfl⟩
      · have hv0 := bits_lo_u8 .or (c.toNat : Int) 32
        have hv1 := bits_hi_u8 .or (c.toNat : Int) 32
        have hx : hexd (c.toNat : Int) = if 97 ≤ bits .or .u8 (c.toNat : Int) 32 ∧ bits .or .u8 (c.toNat : Int) 32 ≤ 102 then some (bits .or .u8 (c.toNat : Int) 32 - 87).toNat else none := by
          unfold hexd
          rw [if_neg (by omega)]
        by_cases h95 : c.toNat = 95
        · have e95 : bits .or .u8 (c.toNat : Int) 32 = 127 := by rw [h95]; decide
          have hs : ustep acc c = none := by
            unfold ustep
            rw [hx, e95]
            rfl
          have HN := Aside0.mk (hdec.trans (ux_none _ _ _ hs))
          have hu : bits .or .u8 95 32 = 127 := by decide
          clear hacc hs hx hdec ha hv0 hv1
          go_wp2_with (go_at_call 104; refine (lower_w _ _).mono ?_; rintro e w' ⟨rfl, rfl⟩)
          all_goals go_ret2
          all_goals exact ⟨ur_none HN.out _ _ (Or.inr rfl) rfl, rfl⟩
        · have hl := lower_w (c.toNat : Int)
          generalize bits .or .u8 (c.toNat : Int) 32 = l at hv0 hv1 hx hl
          by_cases hlo : 97 ≤ l ∧ l ≤ 102
          · obtain ⟨hl0, hl1⟩ := hlo
            rw [if_pos ⟨hl0, hl1⟩] at hx
            by_cases hcut : acc < 1152921504606846976
            · have hs : ustep acc c = some (acc * 16 + (l - 87).toNat) := by
                unfold ustep
                rw [hx]
                exact if_pos hcut
              have HN : Aside0 (a * 16 + (l - 87) = ((acc * 16 + (l - 87).toNat : Nat) : Int) ∧ acc * 16 + (l - 87).toNat < 18446744073709551616 ∧ U = ux (acc * 16 + (l - 87).toNat) (bs.drop (k + 1))) := ⟨⟨by omega, by omega, hdec.trans (ux_some _ _ _ _ hs)⟩⟩
              have icut : a < 1152921504606846976 := by omega
              have iov : a * 16 + (l - 87) < 18446744073709551616 := by omega
              clear hcut hacc hs hx hdec ha
              go_wp2_with (go_at_call 104; refine (hl _).mono ?_; rintro e w' ⟨rfl, rfl⟩)
              all_goals refine ⟨⟨k + 1, acc * 16 + (l - 87).toNat, a * 16 + (l - 87), rfl, (by first | rfl | (congr 1; omega)), (by first | rfl | (congr 1; omega)), by omega, HN⟩, by simp [intOf]; omega⟩
            · have hs : ustep acc c = none := by
                unfold ustep
                rw [hx]
                exact if_neg hcut
              have HN := Aside0.mk (hdec.trans (ux_none _ _ _ hs))
              have icut : 1152921504606846976 ≤ a := by omega
              clear hcut hacc hs hx hdec ha
              go_wp2_with (go_at_call 104; refine (hl _).mono ?_; rintro e w' ⟨rfl, rfl⟩)
              all_goals go_ret2
              all_goals exact ⟨ur_none HN.out _ _ (Or.inl rfl) rfl, rfl⟩
          · rw [if_neg hlo] at hx
            have hs : ustep acc c = none := by
              unfold ustep
              rw [hx]
            have HN := Aside0.mk (hdec.trans (ux_none _ _ _ hs))
            clear hacc hs hx hdec ha
            go_wp2_with (go_at_call 104; refine (hl _).mono ?_; rintro e w' ⟨rfl, rfl⟩)
            all_goals go_ret2
            all_goals exact ⟨ur_none HN.out _ _ (Or.inr rfl) rfl, rfl⟩
    · have hkk : k = t.size := by omega
      subst hkk
      rw [List.drop_eq_nil_of_le (by omega)] at hdec
      have HN := Aside0.mk hdec
      have HA := Aside0.mk hacc
      subst ha
      clear hacc hdec a0 a1
      go_wp2
      go_ret2
      exact ⟨Or.inl ⟨acc, HN.out, HA.out, rfl⟩, rfl⟩
/-- What the text gives. -/
def uo (t : ByteArray) : Option Nat := if t.size = 0 then none else ux 0 t.data.toList
theorem uo_get (t : ByteArray) : (uo t).getD 0 = (ux 0 t.data.toList).getD 0 := by
  unfold uo
  split
  · rename_i h
    have e : t.data.toList = [] := by
      apply List.eq_nil_of_length_eq_zero
      rw [Lib.size_eq] at h
      exact h
    rw [e]
    rfl
  · rfl
set_option maxHeartbeats 8000000 in
set_option maxRecDepth 100000 in
theorem inner (t : ByteArray) (hmax : t.size ≤ 1048576) (w : World) :
    Calls Tryd.prog 87 #[.string t, .int .i64 16, .int .i64 64] w fun e w' => UR (uo t) e ∧ Below w.heap.size w w' := by
  by_cases hne : t.size = 0
  · have e : uo t = none := if_pos hne
    have et : t = ⟨#[]⟩ := by
      apply ByteArray.ext
      apply Array.eq_empty_of_size_eq_zero
      exact hne
    rw [e, et]
    clear hne e et hmax
    go_enter Tryd.func87, Tryd.ntmps87
    go_wp2
    go_ret2
    exact ⟨ur_none rfl _ _ (Or.inr rfl) rfl, Below.refl _ _⟩
  · have e : uo t = ux 0 t.data.toList := if_neg hne
    rw [e]
    exact (inner16 t hne hmax w).mono fun e w' ⟨h1, h2⟩ => ⟨h1, by rw [h2]; exact Lib.bytesWorld_below w 5 t⟩
/-- What ParseUint gives. -/
def UP (o : Option Nat) (e : Ending) : Prop := (∃ v : Nat, o = some v ∧ v < 18446744073709551616 ∧ e = .returned (.tuple #[.int .u64 (v : Int), .nilIface])) ∨ (o = none ∧ ∃ (x : Int) (N : Nat), e = .returned (.tuple #[.int .u64 x, .iface 115 (.pointer (some ⟨N, 0, none⟩))]))
theorem toError_w (fn s : ByteArray) (base bits k : Int) (hk : k = 1 ∨ k = 2) (w : World) (hlim : s.size ≤ 1048576) (hw : WF w) :
    Calls Tryd.prog 72 #[.string fn, .string s, .int .i64 base, .int .i64 bits, .iface 114 (.int .i64 k)] w fun e w' => ∃ N, e = .returned (.iface 115 (.pointer (some ⟨N, 0, none⟩))) ∧ Below w.heap.size w w' := by
  rcases hk with rfl | rfl
  · obtain ⟨te, pe, hv⟩ := hw.era
    exact (Any.strconv_toError_range (ρ := Tryd.laysC174_ren) { Tryd.laysC174 with } fn s base bits _ w (by omega) hv (.inr ⟨te, pe, rfl⟩)).mono fun e w' ⟨N, h1, _, _, h2⟩ => ⟨N, h1, h2⟩
  · obtain ⟨te, pe, hv⟩ := hw.esy
    exact (Any.strconv_toError_syntax (ρ := Tryd.laysC174_ren) { Tryd.laysC174 with } fn s base bits _ w (by omega) hv (.inr ⟨te, pe, rfl⟩)).mono fun e w' ⟨N, h1, _, _, h2⟩ => ⟨N, h1, h2⟩
set_option maxHeartbeats 8000000 in
set_option maxRecDepth 100000 in
theorem parseUint16 (t : ByteArray) (hmax : t.size ≤ 1048576) (w : World) (hw : WF w) :
    Calls Tryd.prog 74 #[.string t, .int .i64 16, .int .i64 64] w fun e w' => UP (uo t) e ∧ Below w.heap.size w w' := by
  have hi := inner t hmax w
  obtain ⟨U, hU⟩ : ∃ U, U = uo t := ⟨_, rfl⟩
  rw [← hU] at hi ⊢
  have HW := Aside0.mk hw
  have HX := Aside0.mk hmax
  clear hU hw hmax
  go_enter Tryd.func74, Tryd.ntmps74
  go_wp2_with (go_at_call 87; refine hi.mono ?_; rintro e w1 ⟨hu, hb⟩; have HB := Aside0.mk hb; clear hi hb; rcases hu with ⟨v, hv, hv2, rfl⟩ | ⟨hn, x, k, hk, rfl⟩)
  · have HV := Aside0.mk (And.intro hv hv2)
    clear hv hv2
    go_wp2
    go_ret2
    exact ⟨Or.inl ⟨v, HV.out.1, HV.out.2, rfl⟩, HB.out⟩
  · have HN := Aside0.mk hn
    have HK := Aside0.mk hk
    clear hn hk
    go_wp2_with (go_at_call 72; refine (toError_w _ _ _ _ _ HK.out _ HX.out (wf_on HW.out HB.out)).mono ?_; rintro e w2 ⟨N, rfl, hb⟩; have HC := Aside0.mk (below_step HB.out hb); clear hb)
    go_ret2
    exact ⟨Or.inr ⟨HN.out, x, N, rfl⟩, HC.out⟩
set_option maxHeartbeats 8000000 in
set_option maxRecDepth 100000 in
theorem unhex_w (t : ByteArray) (hmax : t.size ≤ 1048576) (w : World) (hw : WF w) :
    Calls Tryd.prog 57 #[.string t] w fun e w' => (∃ v : Nat, v = (ux 0 t.data.toList).getD 0 ∧ v < 18446744073709551616 ∧ e = .returned (.int .u64 (v : Int))) ∧ Below w.heap.size w w' := by
  have hi := parseUint16 t hmax w hw
  rw [← uo_get t]
  obtain ⟨U, hU⟩ : ∃ U, U = uo t := ⟨_, rfl⟩
  rw [← hU] at hi ⊢
  clear hU hw hmax
  go_enter Tryd.func57, Tryd.ntmps57
  go_wp2_with (go_at_call 74; refine hi.mono ?_; rintro e w1 ⟨hu, hb⟩; have HB := Aside0.mk hb; clear hi hb; rcases hu with ⟨v, hv, hv2, rfl⟩ | ⟨hn, x, N, rfl⟩)
  · have HV := Aside0.mk (And.intro hv hv2)
    clear hv hv2
    go_wp2
    go_ret
    exact ⟨⟨v, by rw [HV.out.1]; rfl, HV.out.2, rfl⟩, HB.out⟩
  · have HN := Aside0.mk hn
    clear hn
    go_wp2
    go_ret
    exact ⟨⟨0, by rw [HN.out]; rfl, by omega, rfl⟩, HB.out⟩
end Go.Proofs.YtcfjdpegllnhfaaDoor.UX
