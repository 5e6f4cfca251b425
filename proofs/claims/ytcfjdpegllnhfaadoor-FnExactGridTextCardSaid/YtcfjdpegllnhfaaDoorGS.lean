/- spec.l05Text, spec.GridText walked: the same text as the program's; the law's function answers true. Conditions: the grid's numbers are those of a uint64; the world holds the tables (GF). -/
import Derived.Test.YtcfjdpegllnhfaaDoorGT
import Derived.Test.YtcfjdpegllnhfaaDoorPureFnExactFollowerText
import Derived.Test.YtcfjdpegllnhfaaDoorFFnExactFollowerTextx1
namespace Go.Proofs.YtcfjdpegllnhfaaDoor.GT
open Go.RowKit Go.Proofs.YtcfjdpegllnhfaaDoorW.PrintWords Go.Proofs.YtcfjdpegllnhfaaDoorW.PrintLast Go.Proofs.YtcfjdpegllnhfaaDoorW.PrintMore Go.Proofs.YtcfjdpegllnhfaaDoor.Arr
set_option linter.unusedVariables false
set_option linter.unusedSimpArgs false
theorem dec59 (i : Nat) (hi : i < 64) (w : World) : Calls Tryd.prog 59 #[.int .i64 (i : Int)] w fun e w' => e = .returned (.string ⟨(Lib.itoa (i : Int)).toArray⟩) ∧ Below w.heap.size w w' :=
  FFnExactFollowerText.spec_Decimal.calls 10 (i : Int) _ w (Pure.dec_i 9 (i : Int) (by omega) (by omega) (by omega))
/-- string of one byte, behind the slice that was built of it. -/
theorem conv1 : ∀ (W : World) (v : Int), (convert 67 9 (.slice (some ⟨W.heap.size, 0, none⟩) 1 1)).run Tryd.prog (W.alloc (.cells #[.int .u8 v] 5)) = .ok (.string ⟨#[UInt8.ofNat v.toNat]⟩) (W.alloc (.cells #[.int .u8 v] 5)) := by
  intro W v
  have hr : ReadsInt (W.alloc (.cells #[.int .u8 v] 5)) .u8 (some ⟨W.heap.size, 0, none⟩) 1 [v] := ⟨rfl, by omega, fun _ => ⟨_, rfl, fun j hj => by
    obtain rfl : j = 0 := by omega
    rw [add_off, blk_cell (blk_new W _)]
    rfl⟩⟩
  rw [string_of_reads Tryd.underlying67 Tryd.underlying5 Tryd.underlying9 hr]
  rfl
abbrev D16 : ByteArray := ⟨#[48, 49, 50, 51, 52, 53, 54, 55, 56, 57, 97, 98, 99, 100, 101, 102]⟩
theorem hb16 (d : Nat) (h : d < D16.size) : ((D16[d]'h).toNat : Int) = ((hb d : Nat) : Int) := by
  have h' : d < 16 := h
  have key : ∀ d : Fin 16, bt D16 (d.val : Int) = ((hb d.val : Nat) : Int) := by decide
  have k := key ⟨d, h'⟩
  unfold bt at k
  rw [Int.toNat_natCast, dif_pos h] at k
  exact k
theorem hex_take (x m : Nat) (hm : m < 16) : (hex16 x).take (m + 1) = (hex16 x).take m ++ [UInt8.ofNat (hb (x / 16 ^ (15 - m) % 16))] := by
  have hl : m < (hex16 x).length := by rw [hex16_len]; exact hm
  rw [List.take_succ_eq_append_getElem hl]
  congr 2
  simp [hex16]
theorem shr_hex (x m : Nat) (hm : m < 16) : (x : Int) / 2 ^ (60 - 4 * m) = ((x / 16 ^ (15 - m) : Nat) : Int) := by
  have e : (2 : Nat) ^ (60 - 4 * m) = 16 ^ (15 - m) := by
    rw [show (16 : Nat) = 2 ^ 4 by decide, ← Nat.pow_mul]
    congr 1
    omega
  rw [← e]
  simp
theorem cell_on1 {w w' : World} {p : Addr} {v : Value} (hb : Below w.heap.size w w') (h : w.cell? p = some v) : w'.cell? p = some v := (hb.cell (World.block_lt_of_cell? w _ h)).trans h
theorem cell_on0 {w w' : World} {p : Addr} {v : Value} (hb : Below w.heap.size w w') (h : w.cell? p = some v) : w'.cell? p = some v := cell_on1 hb h
set_option maxHeartbeats 8000000 in
set_option maxRecDepth 100000 in
theorem specText (l : List Int) (hl : Grid l) (g : Nat) (w : World) (hrow : w.heap[g]? = some (.cells (arr l) 40 (0, 0))) :
    Calls Tryd.prog 46 #[.pointer (some ⟨g, 0, none⟩)] w fun e w' => e = .returned (.string ⟨(gpre l 64).toArray⟩) ∧ Below w.heap.size w w' := by
  have HL := Aside0.mk hl
  have HB := Aside0.mk (Below.refl w.heap.size w)
  have HC := Aside0.mk (show ∀ i, i < 64 → w.cell? ⟨g, i, none⟩ = some (.int .u64 (l.getD i 0)) from fun i hi => by rw [blk_cell hrow]; exact grid_get l hl i hi)
  clear hl hrow
  go_enter Tryd.func46, Tryd.ntmps46
  go_wp2
  go_loopg [4, 5] 64 (fun kq v4 v5 w' => ∃ i : Nat, v5 = .int .i64 (i : Int) ∧ v4 = .string ⟨(gpre l i).toArray⟩ ∧ Aside0 (i + kq = 64) ∧ Aside0 (Below w.heap.size w w'))
  case atStart => exact ⟨0, by simp, rfl, ⟨by omega⟩, HB⟩
  case round =>
    clear HB
    obtain ⟨i, rfl, rfl, HI, HB⟩ := hrel
    by_cases c2 : i < 64
    · cases gk with
      | zero => exact absurd HI.out (by omega)
      | succ k1 =>
        have c2b0 : decide ((i : Int) < 64) = true := decide_eq_true (by omega)
        have c2b1 : decide (i < 64) = true := decide_eq_true c2
        have hgb := grid_b l HL.out i c2
        obtain ⟨x, hxx⟩ : ∃ x : Nat, (x : Int) = l.getD i 0 := ⟨(l.getD i 0).toNat, by omega⟩
        have hxb : x < 18446744073709551616 := by omega
        clear hgb
        have hcell := cell_on0 HB.out (HC.out i c2)
        rw [← hxx] at hcell
        have p1 : (0 ≤ (i : Int)) = True := eq_true (by omega)
        have q1 : ((i : Int) < 64) = True := eq_true (by omega)
        have HC2 := Aside0.mk c2
        have HXX := Aside0.mk hxx
        have HXB := Aside0.mk hxb
        have HPL := Aside0.mk (gpre_len l i (by omega))
        obtain ⟨bs, hbs⟩ : ∃ bs, bs = gpre l i := ⟨_, rfl⟩
        rw [← hbs]
        have HBS := Aside0.mk hbs
        clear c2 hxx hxb hbs
        by_cases c3 : x = 0
        · have c3d : ((x : Int) == 0) = true := by simp [c3]
          have c3e : (x == 0) = true := by simp [c3]
          have HC3 := Aside0.mk c3
          clear c3
          go_wp2
          go_roundg k1
          case measure => omega
          case rel =>
            have e : gcell l i = [] := by unfold gcell; rw [if_pos (by rw [← HXX.out, HC3.out]; rfl)]
            refine ⟨i + 1, ?_, by rw [gpre, e, List.append_nil, HBS.out], ⟨by have := HI.out; omega⟩, HB⟩
            have e : wrap64 ((i : Int) + 1) = ((i + 1 : Nat) : Int) := by have := HC2.out; unfold wrap64; omega
            rw [← e]
        · have c3d : ((x : Int) == 0) = false := by simp [c3]
          have c3e : (x == 0) = false := by simp [c3]
          have HC3 := Aside0.mk c3
          clear c3
          obtain ⟨t0, e0, s0⟩ : ∃ t : ByteArray, t = ⟨(Lib.itoa (i : Int)).toArray⟩ ∧ t.size ≤ 21 := ⟨_, rfl, by have := HC2.out; have h := Lib.itoa_length_le (i : Int) (by omega) (by omega); simpa [ByteArray.size] using h⟩
          obtain ⟨tb, eb, sb⟩ : ∃ t : ByteArray, t = ⟨bs.toArray⟩ ∧ t.size ≤ 2500 := ⟨_, rfl, by have h := HPL.out; rw [← HBS.out] at h; have := HC2.out; have h2 : bs.length ≤ 2500 := (by omega); simpa [ByteArray.size] using h2⟩
          rw [← eb]
          have E0 := Aside0.mk e0
          have EB := Aside0.mk eb
          have g1 : (9223372036854775807 < t0.size + 1) = False := eq_false (by omega)
          have g2 : (9223372036854775807 < tb.size + (t0.size + 1)) = False := eq_false (by omega)
          have g2' : (9223372036854775807 < tb.size + t0.size + 1) = False := eq_false (by omega)
          have HS := Aside0.mk (And.intro s0 sb)
          clear e0 eb s0 sb
          go_wp2_with (go_at_call 59; refine (dec59 i HC2.out _).mono ?_; rintro e w5 ⟨he, hb⟩; rw [← E0.out] at he; subst he; have HB_ := Aside0.mk (below_step HB.out hb); have hcell_ := cell_on1 hb hcell; clear hb HB hcell; have HB := HB_; have hcell := hcell_; clear HB_ hcell_)
          go_loopg [4, 6] 16 (fun kq v4 v6 w' => ∃ (m : Nat) (s : ByteArray), v6 = .int .i64 (60 - 4 * (m : Int)) ∧ v4 = .string s ∧ Aside0 (m + kq = 16) ∧ Aside0 (s.data.toList = bs ++ (Lib.itoa (i : Int) ++ 32 :: (hex16 x).take m)) ∧ Aside0 (Below w.heap.size w w'))
          case atStart => exact ⟨0, tb ++ (t0 ++ (⟨#[32]⟩ : ByteArray)), by simp, rfl, ⟨by omega⟩, ⟨by rw [EB.out, E0.out]; simp [ByteArray.data_append]⟩, HB⟩
          case round =>
            clear HB hcell
            obtain ⟨m, s, rfl, rfl, HM, HD, HB⟩ := hrel
            have HSZ := Aside0.mk (show s.size ≤ 2600 by
              have h1 := congrArg List.length HD.out
              have h2 := HPL.out
              rw [← HBS.out] at h2
              have h3 := HC2.out
              have h4 := Lib.itoa_length_le (i : Int) (by omega) (by omega)
              have h5 := hex16_len x
              simp only [List.length_append, List.length_cons, List.length_take, Array.length_toList] at h1
              have h6 : s.data.size = s.size := rfl
              omega)
            have hcell := cell_on0 HB.out (HC.out i HC2.out)
            rw [← HXX.out] at hcell
            by_cases c4 : m < 16
            · cases gk with
              | zero => exact absurd HM.out (by omega)
              | succ k2 =>
                have c4b : decide ((0 : Int) ≤ 60 - 4 * (m : Int)) = true := decide_eq_true (by omega)
                have ek : IntKind.u64.wrap (60 - 4 * (m : Int)) = ((60 - 4 * m : Nat) : Int) := by rw [wraps_u64 _ (by omega) (by omega)]; omega
                have e60 : (0 : Int) ≤ 60 - 4 * (m : Int) := by omega
                have gs : (9223372036854775807 < s.size + 1) = False := eq_false (by have := HSZ.out; omega)
                have c4c : decide (4 * (m : Int) ≤ 60) = true := decide_eq_true (by omega)
                have c4d : decide (4 * m ≤ 60) = true := decide_eq_true (by omega)
                obtain ⟨y, hy⟩ : ∃ y, y = x / 16 ^ (15 - m) % 16 := ⟨_, rfl⟩
                have hy16 : y < 16 := by rw [hy]; omega
                have eb : Go.bits .and .u64 ((x : Int) / 2 ^ (60 - 4 * m)) 15 = (y : Int) := by
                  have hle : x / 16 ^ (15 - m) ≤ x := Nat.div_le_self _ _
                  have h64 := HXB.out
                  rw [shr_hex x m c4, hy]
                  generalize x / 16 ^ (15 - m) = z at hle
                  rw [u64_and15 _ (by omega) (by omega)]
                  omega
                have q16 : (y : Int) < 16 := by omega
                have HY := Aside0.mk hy
                have HM2 := Aside0.mk c4
                clear c4 hy
                have hcv := conv1
                go_wp2
                go_roundg k2
                case measure => omega
                case rel =>
                  have hyd : y < D16.size := hy16
                  have hd16 := hb16 y hyd
                  have eD : D16[y]'hyd = UInt8.ofNat (hb y) := by rw [← UInt8.ofNat_toNat (x := D16[y]'hyd)]; congr 1; omega
                  refine ⟨m + 1, s ++ ⟨#[D16[y]'hyd]⟩, ?_, rfl, ⟨by have := HM.out; omega⟩, ⟨?_⟩, ⟨HB.out.alloc HB.out.size _⟩⟩
                  · congr 1
                    have : ((m + 1 : Nat) : Int) = (m : Int) + 1 := by omega
                    rw [this]; omega
                  · rw [eD, hex_take x m HM2.out, ← HY.out, ByteArray.data_append, Array.toList_append, HD.out]
                    simp
            · have c4b : decide ((0 : Int) ≤ 60 - 4 * (m : Int)) = false := decide_eq_false (by have := HM.out; omega)
              have gs : (9223372036854775807 < s.size + 1) = False := eq_false (by have := HSZ.out; omega)
              have em : m = 16 := by have := HM.out; omega
              have EM := Aside0.mk em
              have c4c : decide (4 * (m : Int) ≤ 60) = false := decide_eq_false (by omega)
              have c4d : decide (4 * m ≤ 60) = false := decide_eq_false (by omega)
              clear c4 em
              go_wp2
              go_roundg k1
              case measure => omega
              case rel =>
                refine ⟨i + 1, ?_, ?_, ⟨by have := HI.out; omega⟩, HB⟩
                · have e : wrap64 ((i : Int) + 1) = ((i + 1 : Nat) : Int) := by have := HC2.out; unfold wrap64; omega
                  rw [← e]
                · have e : gcell l i = Lib.itoa (i : Int) ++ [32] ++ hex16 x ++ [10] := by
                    unfold gcell
                    rw [if_neg (by rw [← HXX.out]; have := HC3.out; omega), ← HXX.out, Int.toNat_natCast]
                  congr 1
                  apply ByteArray.ext
                  apply Array.toList_inj.1
                  rw [ByteArray.data_append, Array.toList_append, HD.out, gpre, e, ← HBS.out, EM.out, List.take_of_length_le (by rw [hex16_len]; omega)]
                  simp
    · have HI' := HI.out
      have c2b0 : decide ((i : Int) < 64) = false := decide_eq_false (by omega)
      have c2b1 : decide (i < 64) = false := decide_eq_false c2
      have e : i = 64 := by omega
      subst e
      clear c2 HI'
      go_wp2
      go_ret
      exact ⟨rfl, HB.out⟩
set_option maxHeartbeats 8000000 in
set_option maxRecDepth 100000 in
theorem specGridText (l : List Int) (hl : Grid l) (w : World) : Calls Tryd.prog 20 #[.agg (arr l)] w fun e w' => e = .returned (.string ⟨(gpre l 64).toArray⟩) ∧ Below w.heap.size w w' := by
  obtain ⟨c, hc⟩ : ∃ c, c = arr l := ⟨_, rfl⟩
  rw [← hc]
  have HCS := Aside0.mk (show c.size = 64 by rw [hc]; exact encs_size hl.1)
  have HC1 := Aside0.mk (show ∀ j, j < 64 → ∃ x, c[j]? = some (.int .u64 x) by rw [hc]; exact encs_all hl.1)
  have HCC := Aside0.mk hc
  have HL := Aside0.mk hl
  have HB := Aside0.mk (Below.refl w.heap.size w)
  clear hl hc
  go_enter Tryd.func20, Tryd.ntmps20
  go_wp2_with (first | ((with_reducible refine gate_dst (N := 1) rfl ?_); refine box_event ?hg (N := 1) ?hd (cs := c) (t := 40) ?hr ?_; (case hd => rfl); (case hg => rfl); (case hr => first | (go_simp; done) | (go_simp; rfl) | rfl); intro g1 hg w1 hbox hb; have n0_ := Aside0.mk (below_step (by repeat (first | (with_reducible first | exact HB.out | apply below_alloc | apply pw_below_drewN | apply below_drew1) | exact HB.out)) hb); have n1_ := Aside0.mk hbox; clear HB; have HB := n0_; have BK1 := n1_; clear n0_ n1_; clear hb hbox hg) | (go_at_call 46; refine (specText l HL.out g1 _ (by have h := BK1.out; rw [HCC.out] at h; exact h)).mono ?_; rintro e w5 ⟨rfl, hb⟩; have n0_ := Aside0.mk (below_step HB.out hb); have m0_ := Aside0.mk (blk_below BK1.out hb); clear HB BK1 hb; have HB := n0_; have BK1 := m0_; clear n0_ m0_))
  go_ret
  exact ⟨rfl, HB.out⟩
set_option maxHeartbeats 8000000 in
set_option maxRecDepth 100000 in
theorem law (l : List Int) (hl : Grid l) (w : World) (hg : GF w) : Calls Tryd.prog 6 #[.agg (arr l)] w fun e w' => e = .returned (.bool true) ∧ Below w.heap.size w w' := by
  have HG := Aside0.mk hg
  clear hg
  obtain ⟨c, hc⟩ : ∃ c, c = arr l := ⟨_, rfl⟩
  rw [← hc]
  have HCS := Aside0.mk (show c.size = 64 by rw [hc]; exact encs_size hl.1)
  have HC1 := Aside0.mk (show ∀ j, j < 64 → ∃ x, c[j]? = some (.int .u64 x) by rw [hc]; exact encs_all hl.1)
  have HCC := Aside0.mk hc
  have HL := Aside0.mk hl
  have HB := Aside0.mk (Below.refl w.heap.size w)
  clear hl hc
  go_enter Tryd.func6, Tryd.ntmps6
  go_wp2_with (first | ((with_reducible refine gate_dst (N := 1) rfl ?_); refine box_event ?hg (N := 1) ?hd (cs := c) (t := 38) ?hr ?_; (case hd => rfl); (case hg => rfl); (case hr => first | (go_simp; done) | (go_simp; rfl) | rfl); intro g1 hg w1 hbox hb; have n0_ := Aside0.mk (below_step (by repeat (first | (with_reducible first | exact HB.out | apply below_alloc | apply pw_below_drewN | apply below_drew1) | exact HB.out)) hb); have n1_ := Aside0.mk hbox; clear HB; have HB := n0_; have BK1 := n1_; clear n0_ n1_; clear hb hbox hg) | ((with_reducible refine gate_dst (N := 5) rfl ?_); refine ev_load rfl rfl rfl BK1.out Tryd.underlying38 (by rw [HCS.out]; kernel_rfl) ?_) | ((with_reducible refine gate_dst (N := 8) rfl ?_); refine ev_load rfl rfl rfl BK1.out Tryd.underlying38 (by rw [HCS.out]; kernel_rfl) ?_) | (go_at_call 21; refine (toGrid c HCS.out HC1.out _).mono ?_; rintro e w5 ⟨rfl, hb⟩; have n0_ := Aside0.mk (below_step HB.out hb); have m0_ := Aside0.mk (blk_below BK1.out hb); clear HB BK1 hb; have HB := n0_; have BK1 := m0_; clear n0_ m0_) | (go_at_call 20; rw [HCC.out]; refine (specGridText l HL.out _).mono ?_; rintro e w5 ⟨rfl, hb⟩; have n0_ := Aside0.mk (below_step HB.out hb); have m0_ := Aside0.mk (blk_below BK1.out hb); clear HB BK1 hb; have HB := n0_; have BK1 := m0_; clear n0_ m0_) | (go_at_call 22; rw [HCC.out]; refine (implGridText l HL.out _ (gf_on HG.out HB.out)).mono ?_; rintro e w5 ⟨rfl, hb⟩; have n0_ := Aside0.mk (below_step HB.out hb); have m0_ := Aside0.mk (blk_below BK1.out hb); clear HB BK1 hb; have HB := n0_; have BK1 := m0_; clear n0_ m0_))
  go_ret
  exact ⟨by simp, HB.out⟩
end Go.Proofs.YtcfjdpegllnhfaaDoor.GT
