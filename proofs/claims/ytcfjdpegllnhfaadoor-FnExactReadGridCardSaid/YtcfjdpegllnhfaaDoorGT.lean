/- impl.GridText walked: its text is the rows of the grid that are not empty. Conditions: the grid's numbers are those of a uint64; the world holds the tables (GF). -/
import Derived.Test.YtcfjdpegllnhfaaDoorArr
import Derived.Test.YtcfjdpegllnhfaaDoorHex2
import Derived.Lib.ItoaLen
import Derived.Lib.ItoaMem
namespace Go.Proofs.YtcfjdpegllnhfaaDoor.GT
open Go.RowKit Go.Proofs.YtcfjdpegllnhfaaDoorW.PrintWords Go.Proofs.YtcfjdpegllnhfaaDoorW.PrintLast Go.Proofs.YtcfjdpegllnhfaaDoorW.PrintMore Go.Proofs.YtcfjdpegllnhfaaDoor.Arr
set_option linter.unusedVariables false
set_option linter.unusedSimpArgs false
structure GF (w : World) : Prop where
  tab : TabHere w
  tz : TZ w
theorem gf_on {w w' : World} (h : GF w) (hb : Below w.heap.size w w') : GF w' := ⟨tab_on h.tab hb, (hb.cell (World.block_lt_of_cell? w _ h.tz)).trans h.tz⟩
theorem index40 (c : Array Value) (i : Nat) (hi : i < 64) (x : Value) (hx : c[i]? = some x) : ∀ W, (Instr.index 40 (.agg c) (.int .i64 (i : Int))).run Tryd.prog W = .ok x W := by
  intro W
  have hi2 : (0 : Int) ≤ (i : Int) ∧ (i : Int) < 64 := by omega
  simp [Instr.index, run_underlying Tryd.underlying40, asIntOf, go_sem, hi, hi2, part, Tryd.isAgg37, Tryd.sizeOf37, hx]
theorem decimal_b (n : Int) (h0 : -9223372036854775808 ≤ n) (h1 : n ≤ 9223372036854775807) (w : World) (htab : TabHere w) :
    Calls Tryd.prog 38 #[.int .i64 n] w fun e w' => e = .returned (.string ⟨(Lib.itoa n).toArray⟩) ∧ Below w.heap.size w w' :=
  (decimal_w n h0 h1 w htab).mono fun e w' ⟨h, k, os, hw⟩ => ⟨h, by rw [hw]; exact below_drewgrow w k os⟩
theorem row_data (a b : List UInt8) : Lib.strCells ((((⟨a.toArray⟩ : ByteArray) ++ (⟨#[32]⟩ : ByteArray)) ++ (⟨b.toArray⟩ : ByteArray)) ++ (⟨#[10]⟩ : ByteArray)) = Lib.byteCells (a ++ [32] ++ b ++ [10]) := by
  rw [Lib.strCells_eq]
  simp [ByteArray.data_append]
/-- A grid's row i as text. -/
def gcell (l : List Int) (i : Nat) : List UInt8 := if l.getD i 0 = 0 then [] else Lib.itoa (i : Int) ++ [32] ++ hex16 (l.getD i 0).toNat ++ [10]
def gpre (l : List Int) : Nat → List UInt8
  | 0 => []
  | i + 1 => gpre l i ++ gcell l i
/-- A grid's numbers. -/
def Grid (l : List Int) : Prop := l.length = 64 ∧ ∀ x ∈ l, 0 ≤ x ∧ x < 18446744073709551616
abbrev arr (l : List Int) : Array Value := (encs (Value.int .u64) l).toArray
theorem grid_get (l : List Int) (h : Grid l) (i : Nat) (hi : i < 64) : (arr l)[i]? = some (.int .u64 (l.getD i 0)) := by
  have hl := h.1
  have : i < l.length := by omega
  simp [encs, List.getElem?_eq_getElem this]
theorem grid_b (l : List Int) (h : Grid l) (i : Nat) (hi : i < 64) : 0 ≤ l.getD i 0 ∧ l.getD i 0 < 18446744073709551616 := by
  have hl := h.1
  have hi' : i < l.length := by omega
  rw [List.getD_eq_getElem?_getD, List.getElem?_eq_getElem hi']
  exact h.2 _ (List.getElem_mem hi')
theorem gcell_len (l : List Int) (i : Nat) (hi : i < 64) : (gcell l i).length ≤ 39 := by
  unfold gcell
  split
  · simp
  · have := Lib.itoa_length_le (i : Int) (by omega) (by omega)
    simp only [List.length_append, List.length_singleton, hex16_len]
    omega
theorem gpre_len (l : List Int) : ∀ i, i ≤ 64 → (gpre l i).length ≤ 39 * i
  | 0, _ => by simp [gpre]
  | i + 1, h => by
    have := gpre_len l i (by omega)
    have := gcell_len l i (by omega)
    rw [gpre, List.length_append]
    omega
set_option maxHeartbeats 8000000 in
set_option maxRecDepth 100000 in
theorem implGridText (l : List Int) (hl : Grid l) (w : World) (hg : GF w) :
    Calls Tryd.prog 22 #[.agg (arr l)] w fun e w' => e = .returned (.string ⟨(gpre l 64).toArray⟩) ∧ Below w.heap.size w w' := by
  obtain ⟨c, hc⟩ : ∃ c, c = arr l := ⟨_, rfl⟩
  rw [← hc]
  have HCS := Aside0.mk (show c.size = 64 by rw [hc]; exact encs_size hl.1)
  have HCG := Aside0.mk (show ∀ i, i < 64 → c[i]? = some (.int .u64 (l.getD i 0)) by rw [hc]; exact grid_get l hl)
  have HL := Aside0.mk hl
  have HG := Aside0.mk hg
  have HB := Aside0.mk (Below.refl w.heap.size w)
  clear hl hg hc
  go_enter Tryd.func22, Tryd.ntmps22
  go_wp2_with (first | ((with_reducible refine gate_dst (N := 1) rfl ?_); refine box_event ?hg (N := 1) ?hd (cs := c) (t := 40) ?hr ?_; (case hd => rfl); (case hg => rfl); (case hr => first | (go_simp; done) | (go_simp; rfl) | rfl); intro g1 hg w1 hbox hb; have n0_ := Aside0.mk (below_step (by repeat (first | (with_reducible first | exact HB.out | apply below_alloc | apply pw_below_drewN | apply below_drew1) | exact HB.out)) hb); have n1_ := Aside0.mk hbox; clear HB; have HB := n0_; have BK1 := n1_; clear n0_ n1_; clear hb hbox hg) | ((with_reducible refine gate_dst (N := 6) rfl ?_); refine ev_load rfl rfl rfl (blk_alloc BK1.out _) Tryd.underlying40 (by rw [HCS.out]; kernel_rfl) ?_))
  go_loopg [7] 64 (fun kq v7 w' => ∃ i : Nat, v7 = .int .i64 (i : Int) ∧ Aside0 (i + kq = 64) ∧ Aside0 (Lib.IsBuilder 69 5 w.heap.size w1.heap.size (Lib.byteCells (gpre l i)) w') ∧ Aside0 (Below w.heap.size w w'))
  case atStart => exact ⟨0, by simp, ⟨by omega⟩, ⟨builder_new 69 5 _ _ HB.out.size⟩, ⟨HB.out.alloc HB.out.size _⟩⟩
  case round =>
    clear HB
    obtain ⟨i, rfl, HI, HBu, HB⟩ := hrel
    by_cases c2 : i < 64
    · cases gk with
      | zero => exact absurd HI.out (by omega)
      | succ k1 =>
        have c2b0 : decide ((i : Int) < 64) = true := decide_eq_true (by omega)
        have c2b1 : decide (i < 64) = true := decide_eq_true c2
        have hgb := grid_b l HL.out i c2
        obtain ⟨x, hxx⟩ : ∃ x : Nat, (x : Int) = l.getD i 0 := ⟨(l.getD i 0).toNat, by omega⟩
        have hix := index40 c i c2 (.int .u64 (x : Int)) (by rw [hxx]; exact HCG.out i c2)
        have hxb : x < 18446744073709551616 := by omega
        clear hgb
        have p1 : (0 ≤ (i : Int)) = True := eq_true (by omega)
        have q1 : ((i : Int) < 64) = True := eq_true (by omega)
        have hcs := HCS.out
        have HC2 := Aside0.mk c2
        have HXX := Aside0.mk hxx
        have HXB := Aside0.mk hxb
        clear c2 hxx hxb
        by_cases c3 : x = 0
        · have c3b : ((x : Int) != 0) = false := by simp [c3]
          have c3d : ((x : Int) == 0) = true := by simp [c3]
          have c3e : (x != 0) = false := by simp [c3]
          have HC3 := Aside0.mk c3
          clear c3
          go_wp2
          go_roundg k1
          case measure => omega
          case rel =>
            refine ⟨i + 1, ?_, ⟨by have := HI.out; omega⟩, ⟨?_⟩, HB⟩
            · have e : wrap64 ((i : Int) + 1) = ((i + 1 : Nat) : Int) := by have := HC2.out; unfold wrap64; omega
              rw [← e]
            · have e : gcell l i = [] := by unfold gcell; rw [if_pos (by rw [← HXX.out, HC3.out]; rfl)]
              rw [gpre, e, List.append_nil]
              exact HBu.out
        · have c3b : ((x : Int) != 0) = true := by simp [c3]
          have c3d : ((x : Int) == 0) = false := by simp [c3]
          have c3e : (x != 0) = true := by simp [c3]
          have HC3 := Aside0.mk c3
          clear c3
          obtain ⟨t0, e0, s0⟩ : ∃ t : ByteArray, t = ⟨(Lib.itoa (i : Int)).toArray⟩ ∧ t.size ≤ 21 := ⟨_, rfl, by have := HC2.out; have h := Lib.itoa_length_le (i : Int) (by omega) (by omega); simpa [ByteArray.size] using h⟩
          obtain ⟨t1, e1, s1⟩ : ∃ t : ByteArray, t = ⟨(hex16 x).toArray⟩ ∧ t.size = 16 := ⟨_, rfl, by have h := hex16_len x; simpa [ByteArray.size] using h⟩
          have E0 := Aside0.mk e0
          have E1 := Aside0.mk e1
          have g1 : (9223372036854775807 < t0.size + 1) = False := eq_false (by omega)
          have g2 : (9223372036854775807 < t0.size + 1 + t1.size) = False := eq_false (by omega)
          have g3 : (9223372036854775807 < t0.size + 1 + t1.size + 1) = False := eq_false (by omega)
          have HS := Aside0.mk (And.intro s0 s1)
          clear e0 e1 s0 s1
          go_wp2_with (first | (go_at_call 38; refine (decimal_b (i : Int) (by omega) (by have := HC2.out; omega) _ (gf_on HG.out HB.out).tab).mono ?_; rintro e w5 ⟨he, hb⟩; rw [← E0.out] at he; subst he; have BU_ := Aside0.mk (isBuilder_below HBu.out hb); have HB_ := Aside0.mk (below_step HB.out hb); clear hb HBu HB; have HBu := BU_; have HB := HB_; clear BU_ HB_) | (go_at_call 47; refine (hex_w x HXB.out _ (gf_on HG.out HB.out).tz).mono ?_; rintro e w6 ⟨he, hb⟩; rw [← E1.out] at he; subst he; have BU_ := Aside0.mk (isBuilder_below HBu.out hb); have HB_ := Aside0.mk (below_step HB.out hb); clear hb HBu HB; have HBu := BU_; have HB := HB_; clear BU_ HB_) | (go_at_call 43; refine (writeString_w w.heap.size w1.heap.size (Lib.byteCells (gpre l i)) (((t0 ++ (⟨#[32]⟩ : ByteArray)) ++ t1) ++ (⟨#[10]⟩ : ByteArray)) _ HBu.out (by have a := gpre_len l i (by have := HC2.out; omega); have b := HS.out; have d := HC2.out; simp only [Lib.byteCells_length, ByteArray.size_append]; have e1 : (⟨#[32]⟩ : ByteArray).size = 1 := rfl; have e2 : (⟨#[10]⟩ : ByteArray).size = 1 := rfl; omega) HB.out.size).mono ?_; rintro e w7 ⟨rfl, hba, hb, hfr⟩; have HBA := Aside0.mk hba; have HB_ := Aside0.mk (HB.out.trans hb); clear hb hba hfr HBu HB; have HB := HB_; clear HB_))
          go_roundg k1
          case measure => omega
          case rel =>
            refine ⟨i + 1, ?_, ⟨by have := HI.out; omega⟩, ⟨Or.inr ?_⟩, HB⟩
            · have e : wrap64 ((i : Int) + 1) = ((i + 1 : Nat) : Int) := by have := HC2.out; unfold wrap64; omega
              rw [← e]
            · have z := HBA.out
              have e : Lib.byteCells (gpre l (i + 1)) = Lib.byteCells (gpre l i) ++ Lib.strCells (((t0 ++ (⟨#[32]⟩ : ByteArray)) ++ t1) ++ (⟨#[10]⟩ : ByteArray)) := by
                rw [E0.out, E1.out, row_data, gpre, Lib.byteCells_append]
                congr 2
                unfold gcell
                rw [if_neg (by rw [← HXX.out]; have := HC3.out; omega), ← HXX.out, Int.toNat_natCast]
              rw [e]
              exact z
    · have HI' := HI.out
      have c2b0 : decide ((i : Int) < 64) = false := decide_eq_false (by omega)
      have c2b1 : decide (i < 64) = false := decide_eq_false c2
      have e : i = 64 := by omega
      rw [e] at HBu
      clear c2 HI' e
      go_wp2_with (go_at_call 44; refine (Tryd.Builder_String_any w.heap.size w1.heap.size (gpre l 64) _ HBu.out HB.out.size).mono ?_; rintro e w' ⟨rfl, hb⟩)
      go_ret
      exact ⟨rfl, HB.out.trans hb⟩
end Go.Proofs.YtcfjdpegllnhfaaDoor.GT
