import Derived.Test.YtcclfndbglgbiaaProg
import Derived.Below
import Derived.Deep.Draws
import Derived.Deep.AppendLies
import Derived.Maps.AppendAt
import Derived.OwnWalk
import Derived.Laws.BytesArg
import Derived.Laws.MakeOwn
import Derived.Laws.OwnMore
import Derived.Deep.OwnRows
import Derived.Tactics
import Derived.Lib.ConvBytes
import Derived.Laws.Slices
import Derived.WalkKit
import Derived.KernelRfl
import Derived.RowKit3
import Derived.Deep.LoopGhost
import Derived.Deep.QuietTactic
import Derived.BigQuiet
import Derived.WideLaws
import Derived.Deep.DeepCutAuto
import Derived.Deep.CutBlock
import Derived.Deep.RegionHeld3
import Derived.Laws.Rows
import Derived.Lib.AppendStr
import Derived.ArgAppend
import Derived.Laws.IdiomCopy
import Derived.OrdersHeld
import Derived.Laws.BitsLemmas
import Derived.RowKit
import Derived.Test.YtcclfndbglgbiaaWWords
import Derived.Test.YtcclfndbglgbiaaWLast
import Derived.Test.YtcclfndbglgbiaaWTab
import Derived.Test.YtcclfndbglgbiaaWFour
import Derived.Test.YtcclfndbglgbiaaWQPut
import Derived.Test.YtcclfndbglgbiaaWApart
import Derived.Test.YtcclfndbglgbiaaWArr
import Derived.Test.YtcclfndbglgbiaaWZeros
import Derived.Test.YtcclfndbglgbiaaWFoot
import Derived.Test.YtcclfndbglgbiaaWKept
import Derived.Test.YtcclfndbglgbiaaWShare
import Derived.Test.YtcclfndbglgbiaaWN
import Derived.Test.YtcclfndbglgbiaaWFootNe
import Derived.Test.YtcclfndbglgbiaaWAt
import Derived.Test.YtcclfndbglgbiaaWEqStruct
import Derived.Test.YtcclfndbglgbiaaWRepsOne
import Derived.Test.YtcclfndbglgbiaaWInv
import Derived.Test.YtcclfndbglgbiaaWInvWords
import Derived.Test.YtcclfndbglgbiaaWGuard
import Derived.Test.YtcclfndbglgbiaaWNEv
import Derived.Test.YtcclfndbglgbiaaWMore
import Derived.Test.YtcclfndbglgbiaaArr
import Derived.Test.YtcclfndbglgbiaaPop
import Derived.Deep.LoopGhost
namespace Go.Proofs.Ytcclfndbglgbiaa.FFnExactCountPairs
open Go.RowKit Go.Proofs.YtcclfndbglgbiaaW.PrintWords Go.Proofs.YtcclfndbglgbiaaW.PrintLast Go.Proofs.YtcclfndbglgbiaaW.PrintMore
set_option linter.unusedVariables false
set_option linter.unusedSimpArgs false
open Go.Proofs.Ytcclfndbglgbiaa.Arr Go.Proofs.Ytcclfndbglgbiaa.PFnExactCountInk Go.Proofs.Ytcclfndbglgbiaa.Pop
def val (c : Array Value) (i : Nat) : Nat := match c[i]? with | some (.int .u64 x) => x.toNat | _ => 0
def cnt (c : Array Value) : Nat → Nat
  | 0 => 0
  | i + 1 => cnt c i + pop 64 (val c i)
theorem cnt_le (c : Array Value) : ∀ i, cnt c i ≤ 64 * i
  | 0 => Nat.le_refl _
  | i + 1 => by have := cnt_le c i; have := pop_le (val c i); simp only [cnt]; omega
def Good (c : Array Value) : Prop := ∀ j, j < 64 → val c j < 18446744073709551616 ∧ c[j]? = some (.int .u64 (val c j : Nat))
theorem add_w (a b : Nat) (h : a + b ≤ 8192) : wrap64 ((a : Int) + (b : Int)) = ((a + b : Nat) : Int) := by unfold wrap64; omega
theorem cnt_succ (c : Array Value) (i : Nat) : cnt c (i + 1) = cnt c i + pop 64 (val c i) := rfl
theorem pop_succ (k x : Nat) : pop (k + 1) x = x % 2 + pop k (x / 2) := rfl
theorem cnt_zero (c : Array Value) : cnt c 0 = 0 := rfl
attribute [local irreducible] pop cnt val
theorem run_index (c : Array Value) (i : Nat) (v : Int) (hi : i < 64) (hv : c[i]? = some (.int .u64 v)) (w : World) :
    (Instr.index 31 (.agg c) (.int .i64 i)).run Try.prog w = .ok (.int .u64 v) w := by
  have h41 := Try.underlying31
  have h28 := Try.underlying28
  have hiz : (i : Int) < 64 := by omega
  simp [Instr.index, go_sem, h41, h28, hv, hiz, hi, part, isAgg]
theorem and_one (b : Nat) (h : b < 18446744073709551616) : wrap64 (bits .and .u64 (b : Int) 1) = ((b % 2 : Nat) : Int) := by
  rw [show (1 : Int) = ((1 : Nat) : Int) from rfl, and_u64 b 1 h (by omega), Nat.and_one_is_mod]; unfold wrap64; omega
set_option maxHeartbeats 8000000 in
set_option maxRecDepth 100000 in
theorem impl (c : Array Value) (hcs : c.size = 64) (hg : Good c) (w : World) :
    Calls Try.prog 34 #[.agg c] w fun e w' => e = .returned (.int .i64 (cnt c 64 : Nat)) ∧ Below w.heap.size w w' := by
  have HCS := Aside0.mk hcs
  have HG := Aside0.mk hg
  clear hcs hg
  have HB := Aside0.mk (Below.refl w.heap.size w)
  go_enter Try.func34, Try.ntmps34
  go_wp2_with (first | ((with_reducible refine gate_dst (N := 1) rfl ?_); refine box_event ?hg (N := 1) ?hd (cs := c) (t := 31) ?hr ?_; (case hd => rfl); (case hg => rfl); (case hr => first | (go_simp; done) | (go_simp; rfl) | rfl); intro g1 hg w1 hbox hb; have n0_ := Aside0.mk (below_step (by repeat (first | (with_reducible first | exact HB.out | apply below_alloc | apply pw_below_drewN | apply below_drew1) | exact HB.out)) hb); have n1_ := Aside0.mk hbox; clear HB; have HB := n0_; have BK1 := n1_; clear n0_ n1_; clear hb hbox hg) | ((with_reducible refine gate_dst (N := 6) rfl ?_); refine ev_load rfl rfl rfl BK1.out Try.underlying31 (by rw [HCS.out]; kernel_rfl) ?_))
  go_loopg [3, 7] 64 (fun g s3 s7 wx => ∃ (i : Nat), i + g = 64 ∧ s3 = .int .i64 (cnt c i : Nat) ∧ s7 = .int .i64 i ∧ Aside0 (Below w.heap.size w wx))
  case atStart => exact ⟨0, rfl, by rw [cnt_zero]; rfl, rfl, HB⟩
  case round =>
    clear HB
    obtain ⟨i, hig, rfl, rfl, HB⟩ := hrel
    cases gk with
    | zero =>
      obtain rfl : i = 64 := by omega
      go_wp2
      go_ret
      exact ⟨rfl, HB.out⟩
    | succ g =>
      have hi : i < 64 := by omega
      have hiz : (i : Int) < 64 := by omega
      have hix := fun w => run_index c i _ hi (HG.out i hi).2 w
      have HO := Aside0.mk (onesCount (val c i) (HG.out i hi).1)
      have hle := cnt_le c i
      have hpl := pop_le (val c i)
      have HW := Aside0.mk (add_w (cnt c i) (pop 64 (val c i)) (by omega))
      clear hle hpl
      go_wp2_with (first | ((with_reducible refine gate_callee (f := 65) rfl ?_); refine goesL_ (some 12) rfl rfl Try.func65 (by kernel_rfl) rfl #[.int .u64 (val c i : Nat)] rfl (by (try simp only [List.map_toArray, List.map_cons, List.map_nil]); first | done | rfl | (simp only [List.length_drop, List.length_take]; rfl)) ?_; (with_reducible refine (bits_OnesCount64.calls (val c i : Nat) _ _ HO.out).mono ?_); rintro e w' ⟨rfl, ⟨nd, rfl⟩⟩; refine ⟨_, rfl, ?_⟩))
      go_roundg g
      case measure => omega
      case rel => exact ⟨i + 1, by omega, by rw [HW.out, cnt_succ], by first | rfl | simp, ⟨pw_below_drewN HB.out _⟩⟩
set_option maxHeartbeats 8000000 in
set_option maxRecDepth 100000 in
theorem spec (c : Array Value) (hcs : c.size = 64) (hg : Good c) (w : World) :
    Calls Try.prog 33 #[.agg c] w fun e w' => e = .returned (.int .i64 (cnt c 64 : Nat)) ∧ Below w.heap.size w w' := by
  have HCS := Aside0.mk hcs
  have HG := Aside0.mk hg
  clear hcs hg
  have HB := Aside0.mk (Below.refl w.heap.size w)
  go_enter Try.func33, Try.ntmps33
  go_wp2_with (first | ((with_reducible refine gate_dst (N := 1) rfl ?_); refine box_event ?hg (N := 1) ?hd (cs := c) (t := 31) ?hr ?_; (case hd => rfl); (case hg => rfl); (case hr => first | (go_simp; done) | (go_simp; rfl) | rfl); intro g1 hg w1 hbox hb; have n0_ := Aside0.mk (below_step (by repeat (first | (with_reducible first | exact HB.out | apply below_alloc | apply pw_below_drewN | apply below_drew1) | exact HB.out)) hb); have n1_ := Aside0.mk hbox; clear HB; have HB := n0_; have BK1 := n1_; clear n0_ n1_; clear hb hbox hg))
  go_loopg [3, 4] 64 (fun g s3 s4 wx => ∃ (i : Nat), i + g = 64 ∧ s3 = .int .i64 (cnt c i : Nat) ∧ s4 = .int .i64 i ∧ wx = w1)
  case atStart => exact ⟨0, rfl, by rw [cnt_zero]; rfl, rfl, rfl⟩
  case round =>
    obtain ⟨i, hig, rfl, rfl, rfl⟩ := hrel
    cases gk with
    | zero =>
      obtain rfl : i = 64 := by omega
      go_wp2
      go_ret
      exact ⟨rfl, HB.out⟩
    | succ g =>
      have hi : i < 64 := by omega
      have hiz : (i : Int) < 64 := by omega
      have hcA : wr.cell? ⟨g1, i, none⟩ = some (.int .u64 (val c i : Nat)) := (blk_cell BK1.out i).trans (HG.out i hi).2
      have hfA := blk_frozen BK1.out i
      have HX := Aside0.mk (HG.out i hi).1
      obtain ⟨x, hx⟩ : ∃ x, val c i = x := ⟨_, rfl⟩
      rw [hx] at hcA HX
      have HVX := Aside0.mk hx
      have HLE := Aside0.mk (cnt_le c i)
      obtain ⟨n0, hn0⟩ : ∃ n, cnt c i = n := ⟨_, rfl⟩
      have HN0 := Aside0.mk hn0
      rw [hn0] at HLE
      simp only [hn0]
      clear hx hn0
      obtain ⟨p, hp⟩ : ∃ p, pop 64 x = p := ⟨_, rfl⟩
      have HP := Aside0.mk hp
      have HPL := Aside0.mk (hp ▸ pop_le x)
      clear hp
      go_wp2
      go_loopg [3, 5] 64 (fun g s3 s5 wx => ∃ (n b : Nat), s3 = .int .i64 (n : Nat) ∧ s5 = .int .u64 (b : Nat) ∧ wx = wr ∧ Aside0 (n + pop g b = n0 + p ∧ b < 2 ^ g ∧ b < 18446744073709551616))
      case atStart => exact ⟨n0, x, rfl, rfl, rfl, ⟨by rw [HP.out], HX.out, HX.out⟩⟩
      case round =>
        obtain ⟨n, b, rfl, rfl, rfl, HI⟩ := hrel
        by_cases hb : b = 0
        · subst hb
          have hn : n = n0 + p := by
            have := HI.out.1
            rw [pop_zero] at this; omega
          subst hn
          go_wp2
          go_roundg g
          case measure => omega
          case rel => exact ⟨i + 1, by omega, by rw [cnt_succ, HN0.out, HVX.out, HP.out], by first | rfl | simp, rfl⟩
        · cases gk with
          | zero => exact absurd HI.out.2.1 (by simpa using hb)
          | succ g2 =>
            have hb1 : ¬ ((b : Int) = 0) := by omega
            have hb2 : ((b : Int) != 0) = true := by simpa using hb1
            have hb3 : ((b : Int) == 0) = false := by simpa using hb1
            have HA := Aside0.mk (and_one b HI.out.2.2)
            have HW := Aside0.mk (add_w n (b % 2) (by have := HI.out.1; have := HLE.out; have := HPL.out; omega))
            clear hb
            go_wp2
            go_roundg g2
            case measure => omega
            case rel =>
              refine ⟨n + b % 2, b / 2, by rw [HA.out, HW.out], by first | rfl | simp, rfl, ⟨?_, ?_, ?_⟩⟩
              · have := HI.out.1
                rw [pop_succ] at this; omega
              · have := HI.out.2.1
                rw [Nat.pow_succ] at this; omega
              · have := HI.out.2.2; omega
set_option maxHeartbeats 8000000 in
set_option maxRecDepth 100000 in
theorem law (c : Array Value) (hcs : c.size = 64) (hc : ∀ j, j < 64 → ∃ x, c[j]? = some (.int .u64 x)) (hg : Good c) (w : World) :
    Calls Try.prog 9 #[.agg c] w fun e w' => e = .returned (.bool true) ∧ Below w.heap.size w w' := by
  have HC := Aside0.mk hc
  have HCS := Aside0.mk hcs
  have HG := Aside0.mk hg
  clear hc hcs hg
  have HB := Aside0.mk (Below.refl w.heap.size w)
  obtain ⟨r, hr⟩ : ∃ r, cnt c 64 = r := ⟨_, rfl⟩
  have HR := Aside0.mk hr
  clear hr
  go_enter Try.func9, Try.ntmps9
  go_wp2_with (first | ((with_reducible refine gate_dst (N := 1) rfl ?_); refine box_event ?hg (N := 1) ?hd (cs := c) (t := 29) ?hr ?_; (case hd => rfl); (case hg => rfl); (case hr => first | (go_simp; done) | (go_simp; rfl) | rfl); intro g1 hg w1 hbox hb; have n0_ := Aside0.mk (below_step (by repeat (first | (with_reducible first | exact HB.out | apply below_alloc | apply pw_below_drewN | apply below_drew1) | exact HB.out)) hb); have n1_ := Aside0.mk hbox; clear HB; have HB := n0_; have BK1 := n1_; clear n0_ n1_; clear hb hbox hg) | ((with_reducible refine gate_dst (N := 5) rfl ?_); refine ev_load rfl rfl rfl BK1.out Try.underlying29 (by rw [HCS.out]; kernel_rfl) ?_) | ((with_reducible refine gate_dst (N := 8) rfl ?_); refine ev_load rfl rfl rfl BK1.out Try.underlying29 (by rw [HCS.out]; kernel_rfl) ?_) | ((with_reducible refine gate_callee (f := 19) rfl ?_); refine goesL_ (some 6) rfl rfl Try.func19 (by kernel_rfl) rfl #[.agg c] rfl (by (try simp only [List.map_toArray, List.map_cons, List.map_nil]); first | done | rfl | (simp only [List.length_drop, List.length_take]; rfl)) ?_; (with_reducible refine (toGrid c HCS.out HC.out _).mono ?_); rintro e w' ⟨rfl, hb⟩; have n0_ := Aside0.mk (below_step (by repeat (first | (with_reducible first | exact HB.out | apply below_alloc | apply pw_below_drewN | apply below_drew1) | exact HB.out)) hb); have m0_ := Aside0.mk (blk_below (by (with_reducible repeat (first | refine blk_drewN ?_ _ | refine blk_drew ?_ | refine blk_alloc ?_ _)); exact BK1.out) hb); clear HB; clear BK1; have HB := n0_; have BK1 := m0_; clear n0_ m0_; clear hb; refine ⟨_, rfl, ?_⟩) | ((with_reducible refine gate_callee (f := 19) rfl ?_); refine goesL_ (some 9) rfl rfl Try.func19 (by kernel_rfl) rfl #[.agg c] rfl (by (try simp only [List.map_toArray, List.map_cons, List.map_nil]); first | done | rfl | (simp only [List.length_drop, List.length_take]; rfl)) ?_; (with_reducible refine (toGrid c HCS.out HC.out _).mono ?_); rintro e w' ⟨rfl, hb⟩; have n0_ := Aside0.mk (below_step (by repeat (first | (with_reducible first | exact HB.out | apply below_alloc | apply pw_below_drewN | apply below_drew1) | exact HB.out)) hb); have m0_ := Aside0.mk (blk_below (by (with_reducible repeat (first | refine blk_drewN ?_ _ | refine blk_drew ?_ | refine blk_alloc ?_ _)); exact BK1.out) hb); clear HB; clear BK1; have HB := n0_; have BK1 := m0_; clear n0_ m0_; clear hb; refine ⟨_, rfl, ?_⟩) | ((with_reducible refine gate_callee (f := 33) rfl ?_); refine goesL_ (some 7) rfl rfl Try.func33 (by kernel_rfl) rfl #[.agg c] rfl (by (try simp only [List.map_toArray, List.map_cons, List.map_nil]); first | done | rfl | (simp only [List.length_drop, List.length_take]; rfl)) ?_; (with_reducible refine (HR.out ▸ spec c HCS.out HG.out _).mono ?_); rintro e w' ⟨rfl, hb⟩; have n0_ := Aside0.mk (below_step (by repeat (first | (with_reducible first | exact HB.out | apply below_alloc | apply pw_below_drewN | apply below_drew1) | exact HB.out)) hb); have m0_ := Aside0.mk (blk_below (by (with_reducible repeat (first | refine blk_drewN ?_ _ | refine blk_drew ?_ | refine blk_alloc ?_ _)); exact BK1.out) hb); clear HB; clear BK1; have HB := n0_; have BK1 := m0_; clear n0_ m0_; clear hb; refine ⟨_, rfl, ?_⟩) | ((with_reducible refine gate_callee (f := 34) rfl ?_); refine goesL_ (some 10) rfl rfl Try.func34 (by kernel_rfl) rfl #[.agg c] rfl (by (try simp only [List.map_toArray, List.map_cons, List.map_nil]); first | done | rfl | (simp only [List.length_drop, List.length_take]; rfl)) ?_; (with_reducible refine (HR.out ▸ impl c HCS.out HG.out _).mono ?_); rintro e w' ⟨rfl, hb⟩; have n0_ := Aside0.mk (below_step (by repeat (first | (with_reducible first | exact HB.out | apply below_alloc | apply pw_below_drewN | apply below_drew1) | exact HB.out)) hb); have m0_ := Aside0.mk (blk_below (by (with_reducible repeat (first | refine blk_drewN ?_ _ | refine blk_drew ?_ | refine blk_alloc ?_ _)); exact BK1.out) hb); clear HB; clear BK1; have HB := n0_; have BK1 := m0_; clear n0_ m0_; clear hb; refine ⟨_, rfl, ?_⟩))
  go_ret
  exact ⟨by first | rfl | (simp; done) | (simp [*]; done), by repeat (first | (with_reducible first | exact HB.out | apply below_alloc | apply pw_below_drewN | apply below_drew1) | exact HB.out)⟩
theorem good_of (l : List Int) (hl : l.length = 64) (h : ∀ x ∈ l, 0 ≤ x ∧ x < 18446744073709551616) : Good (encs (Value.int .u64) l).toArray := by
  intro j hj
  have hj' : j < l.length := by omega
  have e : (encs (Value.int .u64) l).toArray[j]? = some (.int .u64 l[j]) := by simp [encs, List.getElem?_eq_getElem hj']
  have b := h l[j] (List.getElem_mem hj')
  unfold val
  rw [e]
  simp only
  exact ⟨by omega, by rw [Int.toNat_of_nonneg b.1]⟩
end Go.Proofs.Ytcclfndbglgbiaa.FFnExactCountPairs
