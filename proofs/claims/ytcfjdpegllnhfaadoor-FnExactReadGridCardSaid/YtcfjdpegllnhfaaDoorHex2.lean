/- strconv.FormatUint at base 16, impl.hex: what they answer at every number. Condition: the world holds the table math/bits.deBruijn64tab where it is read (TZ). -/
import Derived.Test.YtcfjdpegllnhfaaDoorHex
import Derived.Test.YtcfjdpegllnhfaaDoorHexLib
namespace Go.Proofs.YtcfjdpegllnhfaaDoor
open Go.RowKit Go.Proofs.YtcfjdpegllnhfaaDoorW.PrintWords Go.Proofs.YtcfjdpegllnhfaaDoorW.PrintLast Go.Proofs.YtcfjdpegllnhfaaDoorW.PrintMore
set_option linter.unusedVariables false
set_option linter.unusedSimpArgs false
set_option maxHeartbeats 4000000 in
set_option maxRecDepth 100000 in
theorem formatUint78 (u : Nat) (hu : u < 18446744073709551616) (w : World) (htz : TZ w) :
    Calls Tryd.prog 78 #[.int .u64 (u : Int), .int .i64 16] w fun e w' => ∃ j, j ≤ 15 ∧ u / 16 ^ j < 16 ∧ e = .returned (.string (strOfNums (hexs u j))) ∧ Below w.heap.size w w' := by
  go_enter Tryd.func78, Tryd.ntmps78
  go_wp2_with (go_at_call 96; refine (formatBits_w u hu _ htz).mono ?_; rintro e w' ⟨j, hj, hx, rfl, hb⟩)
  go_ret
  exact ⟨j, hj, hx, rfl, hb⟩
set_option maxHeartbeats 4000000 in
set_option maxRecDepth 100000 in
theorem formatUint_w (u : Nat) (hu : u < 18446744073709551616) (w : World) (htz : TZ w) :
    Calls Tryd.prog 67 #[.int .u64 (u : Int), .int .i64 16] w fun e w' => ∃ j, j ≤ 15 ∧ u / 16 ^ j < 16 ∧ e = .returned (.string (strOfNums (hexs u j))) ∧ Below w.heap.size w w' := by
  go_enter Tryd.func67, Tryd.ntmps67
  go_wp2_with (go_at_call 78; refine (formatUint78 u hu _ htz).mono ?_; rintro e w' ⟨j, hj, hx, rfl, hb⟩)
  go_ret
  exact ⟨j, hj, hx, rfl, hb⟩
theorem repeat_w (c : Nat) (h : c ≤ 15) (w : World) : Calls Tryd.prog 68 #[.string ⟨#[48]⟩, .int .i64 (c : Int)] w fun e w' => e = .returned (.string ⟨(List.replicate c 48).toArray⟩) ∧ w' = w :=
  match c, h with
  | 0, _ => repeat_0 w
  | 1, _ => repeat_1 w
  | 2, _ => repeat_2 w
  | 3, _ => repeat_3 w
  | 4, _ => repeat_4 w
  | 5, _ => repeat_5 w
  | 6, _ => repeat_6 w
  | 7, _ => repeat_7 w
  | 8, _ => repeat_8 w
  | 9, _ => repeat_9 w
  | 10, _ => repeat_10 w
  | 11, _ => repeat_11 w
  | 12, _ => repeat_12 w
  | 13, _ => repeat_13 w
  | 14, _ => repeat_14 w
  | 15, _ => repeat_15 w
/-- A number's 16 digits. -/
def hex16 (u : Nat) : List UInt8 := (List.range 16).map fun t => UInt8.ofNat (hb (u / 16 ^ (15 - t) % 16))
theorem hex16_len (u : Nat) : (hex16 u).length = 16 := by simp [hex16]
theorem hexs_size (u j : Nat) : (strOfNums (hexs u j)).size = j + 1 := by rw [strOfNums_size]; simp [hexs]
theorem pad (u j : Nat) (hj : j ≤ 15) (hx : u / 16 ^ j < 16) : (⟨(List.replicate (15 - j) 48).toArray⟩ : ByteArray) ++ strOfNums (hexs u j) = ⟨(hex16 u).toArray⟩ := by
  apply ByteArray.ext
  rw [ByteArray.data_append]
  apply Array.toList_inj.1
  rw [Array.toList_append]
  show List.replicate (15 - j) 48 ++ (strOfNums (hexs u j)).data.toList = hex16 u
  rw [strOfNums_data]
  apply List.ext_getElem?
  intro t
  unfold hexs hex16
  rw [List.map_map]
  by_cases h1 : t < 15 - j
  · rw [List.getElem?_append_left (by simpa using h1), List.getElem?_map, List.getElem?_range (by omega), List.getElem?_replicate, if_pos h1]
    have e : u / 16 ^ (15 - t) % 16 = 0 := by
      have e1 : 15 - t = j + (15 - t - j) := by omega
      rw [e1, Nat.pow_add, ← Nat.div_div_eq_div_mul]
      have : 16 ≤ 16 ^ (15 - t - j) := by
        have := Nat.pow_le_pow_right (show 1 ≤ 16 by decide) (show 1 ≤ 15 - t - j by omega)
        simpa using this
      rw [Nat.div_eq_of_lt (by omega)]
    simp only [Option.map_some, e]
    rfl
  · by_cases h2 : t < 16
    · rw [List.getElem?_append_right (by simp; omega), List.getElem?_map, List.getElem?_map, List.length_replicate, List.getElem?_range (by omega), List.getElem?_range (by omega)]
      simp only [Option.map_some, Function.comp_apply, Int.toNat_natCast]
      rw [show j - (t - (15 - j)) = 15 - t by omega]
    · rw [List.getElem?_eq_none (by simp; omega), List.getElem?_eq_none (by simp; omega)]
set_option maxHeartbeats 4000000 in
set_option maxRecDepth 100000 in
theorem hex_w (u : Nat) (hu : u < 18446744073709551616) (w : World) (htz : TZ w) :
    Calls Tryd.prog 47 #[.int .u64 (u : Int)] w fun e w' => e = .returned (.string ⟨(hex16 u).toArray⟩) ∧ Below w.heap.size w w' := by
  go_enter Tryd.func47, Tryd.ntmps47
  go_wp2_with (first | (go_at_call 67; refine (formatUint_w u hu _ htz).mono ?_; rintro e w1 ⟨j, hj, hx, he, hb⟩; obtain ⟨s, hs, ss⟩ : ∃ s, s = strOfNums (hexs u j) ∧ s.size = j + 1 := ⟨_, rfl, hexs_size u j⟩; rw [← hs] at he; subst he; have HS := Aside0.mk hs; have HB := Aside0.mk hb; have HX := Aside0.mk hx; have HJ := Aside0.mk hj; clear hs hb hx hj; obtain ⟨z, hz, zs⟩ : ∃ z : ByteArray, z = ⟨(List.replicate (15 - j) 48).toArray⟩ ∧ z.size = 15 - j := ⟨_, rfl, by simp [ByteArray.size]⟩; have hc := repeat_w (15 - j) (by omega) w1; rw [← hz] at hc; have HZ := Aside0.mk hz; have HC := Aside0.mk hc; clear hz hc; have e0 : wrap64 (16 - (s.size : Int)) = ((15 - j : Nat) : Int) := (by have := HJ.out; rw [ss]; unfold wrap64; omega); have g : (9223372036854775807 < z.size + s.size) = False := eq_false (by rw [ss, zs]; have := HJ.out; omega); clear ss zs) | (go_at_call 68; rw [e0]; refine HC.out.mono ?_; rintro e w' ⟨rfl, rfl⟩)) 
  go_ret
  exact ⟨by rw [HZ.out, HS.out, pad u j HJ.out HX.out]; rfl, HB.out⟩
end Go.Proofs.YtcfjdpegllnhfaaDoor
