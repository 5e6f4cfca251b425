/- strconv.FormatUint at base 16, impl.hex: what they answer at every number. Condition: the world holds the table math/bits.deBruijn64tab where it is read (TZ). -/
import Derived.Test.YtcfjdpegllnhfaaDoorBuild
import Derived.Test.YtcfjdpegllnhfaaDoorWWords
import Derived.Test.YtcfjdpegllnhfaaDoorWLast
import Derived.Test.YtcfjdpegllnhfaaDoorWMore
import Derived.Deep.LoopGhost
import Derived.Laws.BitsLemmas
namespace Go.Proofs.YtcfjdpegllnhfaaDoor
open Go.RowKit Go.Proofs.YtcfjdpegllnhfaaDoorW.PrintWords Go.Proofs.YtcfjdpegllnhfaaDoorW.PrintLast Go.Proofs.YtcfjdpegllnhfaaDoorW.PrintMore
set_option linter.unusedVariables false
set_option linter.unusedSimpArgs false
/-- What TrailingZeros64 reads at 16. -/
def TZ (w : World) : Prop := w.cell? ⟨8, 15, none⟩ = some (.int .u8 4)
set_option maxHeartbeats 4000000 in
set_option maxRecDepth 100000 in
theorem tz16 (w : World) (h : w.cell? ⟨8, 15, none⟩ = some (.int .u8 4)) : Calls Tryd.prog 117 #[.int .u64 16] w fun e w' => e = .returned (.int .i64 4) ∧ w' = w := by
  have e2 : Go.bits .and .u64 16 (IntKind.u64.wrap (-16)) = 16 := by decide +kernel
  have e3 : IntKind.u64.wrap (16 * 285870213051353865) = 4573923408821661840 := by decide +kernel
  go_enter Tryd.func117, Tryd.ntmps117
  go_wp2
  go_ret
  exact ⟨rfl, rfl⟩
abbrev D36 : ByteArray := ⟨#[48, 49, 50, 51, 52, 53, 54, 55, 56, 57, 97, 98, 99, 100, 101, 102, 103, 104, 105, 106, 107, 108, 109, 110, 111, 112, 113, 114, 115, 116, 117, 118, 119, 120, 121, 122]⟩
/-- A digit's byte. -/
def hb (d : Nat) : Nat := if d < 10 then 48 + d else 87 + d
theorem hb_bt (d : Nat) (h : d < 16) : bt D36 (d : Int) = ((hb d : Nat) : Int) := by
  have key : ∀ d : Fin 16, bt D36 (d.val : Int) = ((hb d.val : Nat) : Int) := by decide
  exact key ⟨d, h⟩
theorem wraps_u64 (n : Int) (h₀ : 0 ≤ n) (h₁ : n < 2 ^ 64) : IntKind.u64.wrap n = n := by unfold IntKind.wrap; simp only [IntKind.bits, IntKind.signed, Bool.false_and]; simp; omega
theorem u64_and15 (x : Int) (h₀ : 0 ≤ x) (h₁ : x < 18446744073709551616) : Go.bits .and .u64 x 15 = x % 16 := bits_mask .u64 64 (by decide) wraps_u64 4 (by decide) x h₀ h₁
/-- The digits from place j down. -/
def hexs (u j : Nat) : List Int := (List.range (j + 1)).map fun t => ((hb (u / 16 ^ (j - t) % 16) : Nat) : Int)
theorem hb_get (d : Nat) (h : d < D36.size) (h' : d < 16) : ((D36[d]'h).toNat : Int) = ((hb d : Nat) : Int) := by
  rw [← hb_bt d h']
  unfold bt
  rw [Int.toNat_natCast, dif_pos h]
/-- formatBits' buffer behind j digits. -/
structure FB (w W : World) (u j : Nat) (cur : Array Value) : Prop where
  row : W.heap[w.heap.size]? = some (.cells cur 141 (0, 0))
  size : cur.size = 65
  done : ∀ t, t < j → cur[64 - t]? = some (.int .u8 ((hb (u / 16 ^ t % 16) : Nat) : Int))
  bel : Below w.heap.size w W
theorem FB.start (w : World) (u : Nat) : FB w (w.alloc (.cells Tryd.zeroCells141 141)) u 0 Tryd.zeroCells141 :=
  ⟨(show (w.heap.push _)[w.heap.size]? = _ by simp), by decide +kernel, fun t h => absurd h (by omega), (Below.refl _ _).alloc (Nat.le_refl _) _⟩
theorem FB.old {w W : World} {u j : Nat} {cur : Array Value} (h : FB w W u j cur) (i : Nat) (hi : i < 65) : ∃ o, cur[i]? = some o := ⟨_, Array.getElem?_eq_getElem (by rw [h.size]; exact hi)⟩
theorem FB.stop (u x j : Nat) (hu : u < 18446744073709551616) (hx : x = u / 16 ^ j) (hj : j = 15) (h : 16 ≤ x) : False := by
  subst hx hj
  have : u / 16 ^ 15 < 16 := by rw [Nat.div_lt_iff_lt_mul (by decide)]; omega
  omega
theorem FB.next {w W : World} {u j : Nat} {cur : Array Value} (h : FB w W u j cur) (hj : j ≤ 15) :
    FB w (W.setCell ⟨w.heap.size, 64 - j, none⟩ (.int .u8 ((hb (u / 16 ^ j % 16) : Nat) : Int))) u (j + 1) (cur.setIfInBounds (64 - j) (.int .u8 ((hb (u / 16 ^ j % 16) : Nat) : Int))) := by
  refine ⟨blk_set h.row _ _, by rw [Array.size_setIfInBounds]; exact h.size, fun t ht => ?_, below_set h.bel (Nat.le_refl _)⟩
  rw [Array.getElem?_setIfInBounds]
  by_cases e : t = j
  · subst e
    rw [if_pos rfl, if_pos (by rw [h.size]; omega)]
  · rw [if_neg (by omega)]
    exact h.done t (by omega)
theorem add_off (g a t : Nat) : (⟨g, a, none⟩ : Addr).add t = ⟨g, a + t, none⟩ := by
  unfold Addr.add
  first | rfl | (split <;> simp_all)
theorem slice141 (g i : Nat) (hi : i < 65) : ∀ W, (Instr.sliceAt 141 (.pointer (some ⟨g, 0, none⟩)) (some (.int .i64 (i : Int))) none none).run Tryd.prog W = .ok (.slice (some ⟨g, i, none⟩) (65 - i) (65 - i)) W := by
  intro W
  have hl : Tryd.prog.arrayLen 141 = 65 := by kernel_rfl
  have he : Tryd.prog.elem 141 = 5 := by kernel_rfl
  have hu : Tryd.prog.underlying 141 = some (.array (Tryd.prog.arrayLen 141) (Tryd.prog.elem 141)) := by rw [hl, he]; exact Tryd.underlying141
  rw [run_sliceAt_array_l W 141 _ hu .i64 (i : Int) (by omega) (by rw [hl]; omega), he, Tryd.sizeOf5 W, hl]
  simp only [Result.andThen, slicedAt, Int.toNat_natCast, Nat.mul_one]
  rw [if_neg (by omega), add_off, Nat.zero_add]
theorem reads141 {w W : World} {u x j : Nat} {cur : Array Value} (h : FB w W u j cur) (hj : j ≤ 15) (hx : x = u / 16 ^ j) (hlt : x < 16) (v : Int) (hv : v = ((hb x : Nat) : Int)) :
    ReadsInt (W.setCell ⟨w.heap.size, 64 - j, none⟩ (.int .u8 v)) .u8 (some ⟨w.heap.size, 64 - j, none⟩) (65 - (64 - j)) (hexs u j) := by
  have z := h.next hj
  have e : u / 16 ^ j % 16 = x := by rw [← hx]; omega
  rw [e, ← hv] at z
  refine ⟨?_, by omega, fun _ => ⟨_, rfl, fun t ht => ?_⟩⟩
  · unfold hexs; simp; omega
  · rw [add_off, blk_cell z.row]
    have q := z.done (j - t) (by omega)
    rw [show 64 - (j - t) = 64 - j + t by omega] at q
    rw [q]
    unfold hexs
    rw [List.getD_eq_getElem?_getD, List.getElem?_map, List.getElem?_range (by omega)]
    rfl
set_option maxHeartbeats 8000000 in
set_option maxRecDepth 100000 in
theorem formatBits_w (u : Nat) (hu : u < 18446744073709551616) (w : World) (htz : TZ w) :
    Calls Tryd.prog 96 #[.slice none 0 0, .int .u64 (u : Int), .int .i64 16, .bool false, .bool false] w fun e w' => ∃ j, j ≤ 15 ∧ u / 16 ^ j < 16 ∧ e = .returned (.tuple #[.slice none 0 0, .string (strOfNums (hexs u j))]) ∧ Below w.heap.size w w' := by
  have HB := Aside0.mk (Below.refl w.heap.size w)
  have HZ := Aside0.mk htz
  have HU := Aside0.mk hu
  have HZ2 := Aside0.mk (show (w.alloc (.cells Tryd.zeroCells141 141)).cell? ⟨8, 15, none⟩ = some (.int .u8 4) from (((Below.refl w.heap.size w).alloc (Nat.le_refl _) _).cell (World.block_lt_of_cell? w _ htz)).trans htz)
  have e0 : Go.bits .and .i64 16 15 = 0 := by decide +kernel
  clear htz hu
  go_enter Tryd.func96, Tryd.ntmps96
  go_wp2_with (first | (go_at_call 117; refine (tz16 _ HZ2.out).mono ?_; rintro e w1 ⟨rfl, rfl⟩) | (go_at_call 116; go_in))
  go_loopg [1, 13] 15 (fun kq v1 v13 w' => ∃ (j : Nat) (cur : Array Value), v1 = .int .u64 ((u / 16 ^ j : Nat) : Int) ∧ v13 = .int .i64 ((65 - j : Nat) : Int) ∧ Aside0 (j + kq = 15) ∧ Aside0 (FB w w' u j cur))
  case atStart => exact ⟨0, _, by simp, by simp, ⟨rfl⟩, ⟨FB.start w u⟩⟩
  case round =>
    obtain ⟨j, cur, rfl, rfl, HJ, HF⟩ := hrel
    obtain ⟨x, hx⟩ : ∃ x, x = u / 16 ^ j := ⟨_, rfl⟩
    rw [← hx]
    have HX := Aside0.mk hx
    clear hx
    have hlt : x < 18446744073709551616 := Nat.lt_of_le_of_lt (by rw [HX.out]; exact Nat.div_le_self _ _) HU.out
    have hj : j ≤ 15 := by have := HJ.out; omega
    obtain ⟨i, hi⟩ : ∃ i, i = 64 - j := ⟨_, rfl⟩
    have e65 : ((65 - j : Nat) : Int) = ((i + 1 : Nat) : Int) := by omega
    rw [e65]
    have hilt : i < 65 := by omega
    obtain ⟨o, ho⟩ := HF.out.old i hilt
    have hcB : wr.cell? ⟨w.heap.size, i, none⟩ = some o := by rw [blk_cell HF.out.row, ho]
    have hfB := blk_frozen HF.out.row i
    have eI : wrap64 (((i + 1 : Nat) : Int) - 1) = (i : Int) := by unfold wrap64; omega
    have HI := Aside0.mk hi
    have HHJ := Aside0.mk hj
    clear hi hj ho e65
    by_cases c : 16 ≤ x
    · cases gk with
      | zero => exact (FB.stop u x j HU.out HX.out (by have := HJ.out; omega) c).elim
      | succ k1 =>
        have c1 : decide ((16 : Int) ≤ (x : Int)) = true := decide_eq_true (by omega)
        have c2 : decide (16 ≤ x) = true := decide_eq_true c
        have eb : Go.bits .and .u64 (x : Int) 15 = ((x % 16 : Nat) : Int) := by rw [u64_and15 _ (by omega) (by omega)]; omega
        clear c
        go_wp2
        go_roundg k1
        case measure => omega
        case rel =>
          refine ⟨j + 1, cur.setIfInBounds i (.int .u8 ((hb (x % 16) : Nat) : Int)), ?_, ?_, ⟨by have := HJ.out; omega⟩, ⟨?_⟩⟩
          · have e : u / 16 ^ (j + 1) = x / 16 := by rw [HX.out, Nat.pow_succ, Nat.div_div_eq_div_mul]
            rw [e]; simp
          · have e : 65 - (j + 1) = i := by rw [HI.out]; omega
            rw [e]
          · have z := HF.out.next HHJ.out
            rw [← HX.out, ← HI.out] at z
            have hsz : x % 16 < D36.size := by show x % 16 < 36; omega
            have e := hb_get (x % 16) hsz (by omega)
            show FB w (wr.setCell ⟨w.heap.size, i, none⟩ (.int .u8 ((D36[x % 16]'hsz).toNat : Int))) u (j + 1) _
            rw [e]
            exact z
    · have c1 : decide ((16 : Int) ≤ (x : Int)) = false := decide_eq_false (by omega)
      have c2 : decide (16 ≤ x) = false := decide_eq_false c
      have hs := slice141 w.heap.size i hilt
      have q36 : (x : Int) < 36 := by omega
      have q36' : x < 36 := by omega
      have HC := Aside0.mk c
      clear c
      go_wp2
      have hsz : x < D36.size := by show x < 36; omega
      have hr := reads141 HF.out HHJ.out HX.out (by have := HC.out; omega) ((D36[x]'hsz).toNat : Int) (hb_get x hsz (by have := HC.out; omega))
      rw [← HI.out] at hr
      rw [string_of_reads Tryd.underlying67 Tryd.underlying5 Tryd.underlying9 hr]
      simp only [Result.andThen]
      rw [Oper.upon_value]
      go_wp2
      go_ret2
      exact ⟨j, HHJ.out, by rw [← HX.out]; have := HC.out; omega, rfl, below_set HF.out.bel (Nat.le_refl _)⟩
end Go.Proofs.YtcfjdpegllnhfaaDoor
