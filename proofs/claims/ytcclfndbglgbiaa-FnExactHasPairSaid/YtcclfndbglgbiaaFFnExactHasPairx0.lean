import Derived.Test.YtcclfndbglgbiaaProg
import Derived.Below
import Derived.Deep.Draws
import Derived.Deep.AppendLies
import Derived.Maps.AppendAt
import Derived.OwnWalk
import Derived.Laws.BytesArg
import Derived.Laws.MakeOwn
import Derived.Laws.OwnMore
import Derived.Deep.OwnRows
import Derived.Tactics
import Derived.Lib.ConvBytes
import Derived.Laws.Slices
import Derived.WalkKit
import Derived.KernelRfl
import Derived.RowKit3
import Derived.Deep.LoopGhost
import Derived.Deep.QuietTactic
import Derived.BigQuiet
import Derived.WideLaws
import Derived.Deep.DeepCutAuto
import Derived.Deep.CutBlock
import Derived.Deep.RegionHeld3
import Derived.Laws.Rows
import Derived.Lib.AppendStr
import Derived.ArgAppend
import Derived.Laws.IdiomCopy
import Derived.OrdersHeld
import Derived.Laws.BitsLemmas
import Derived.RowKit
import Derived.Test.YtcclfndbglgbiaaWWords
import Derived.Test.YtcclfndbglgbiaaWLast
import Derived.Test.YtcclfndbglgbiaaWTab
import Derived.Test.YtcclfndbglgbiaaWFour
import Derived.Test.YtcclfndbglgbiaaWQPut
import Derived.Test.YtcclfndbglgbiaaWApart
import Derived.Test.YtcclfndbglgbiaaWArr
import Derived.Test.YtcclfndbglgbiaaWZeros
import Derived.Test.YtcclfndbglgbiaaWFoot
import Derived.Test.YtcclfndbglgbiaaWKept
import Derived.Test.YtcclfndbglgbiaaWShare
import Derived.Test.YtcclfndbglgbiaaWN
import Derived.Test.YtcclfndbglgbiaaWFootNe
import Derived.Test.YtcclfndbglgbiaaWAt
import Derived.Test.YtcclfndbglgbiaaWEqStruct
import Derived.Test.YtcclfndbglgbiaaWRepsOne
import Derived.Test.YtcclfndbglgbiaaWInv
import Derived.Test.YtcclfndbglgbiaaWInvWords
import Derived.Test.YtcclfndbglgbiaaWGuard
import Derived.Test.YtcclfndbglgbiaaWNEv
import Derived.Test.YtcclfndbglgbiaaWMore
import Derived.Test.YtcclfndbglgbiaaArr
import Derived.Test.YtcclfndbglgbiaaPFnExactHasPairx1
namespace Go.Proofs.Ytcclfndbglgbiaa.FFnExactHasPair
open Go.RowKit Go.Proofs.YtcclfndbglgbiaaW.PrintWords Go.Proofs.YtcclfndbglgbiaaW.PrintLast Go.Proofs.YtcclfndbglgbiaaW.PrintMore
set_option linter.unusedVariables false
set_option linter.unusedSimpArgs false
open Go.Proofs.Ytcclfndbglgbiaa.Arr Go.Proofs.Ytcclfndbglgbiaa.PFnExactHasPair
theorem l00In_f (a lo hi : Int) : spec_l00In.f a lo hi = some (decide (lo ≤ a ∧ a ≤ hi)) := by
  unfold spec_l00In.f
  by_cases h : a ≥ lo
  · rw [if_pos h]; exact congrArg some (decide_eq_decide.2 ⟨fun x => ⟨h, x⟩, fun x => x.2⟩)
  · rw [if_neg h]; exact congrArg some (decide_eq_false (fun x => h x.1)).symm
theorem isPlace_f (a : Int) : impl_isPlace.f a 64 = some (decide (0 ≤ a ∧ a ≤ 63)) := by
  unfold impl_isPlace.f impl_inRange.f
  rw [show wrap64 (64 - 1) = 63 by unfold wrap64; omega]
  by_cases h : 0 ≤ a
  · rw [if_pos h]; exact congrArg some (decide_eq_decide.2 ⟨fun x => ⟨h, x⟩, fun x => x.2⟩)
  · rw [if_neg h]; exact congrArg some (decide_eq_false (fun x => h x.1)).symm
def res (c : Array Value) (b n : Int) : Bool :=
  if (0 ≤ b ∧ b ≤ 63) ∧ 0 ≤ n ∧ n ≤ 63 then (match c[b.toNat]? with | some (.int .u64 x) => bits .and .u64 (x / 2 ^ n.toNat) 1 == 1 | _ => false) else false
set_option maxHeartbeats 8000000 in
set_option maxRecDepth 100000 in
theorem spec_in (c : Array Value) (hcs : c.size = 64) (b n : Int) (x : Int) (hb : 0 ≤ b ∧ b ≤ 63) (hn : 0 ≤ n ∧ n ≤ 63) (hx : c[b.toNat]? = some (.int .u64 x)) (w : World) :
    Calls Try.prog 18 #[.agg c, .int .i64 b, .int .i64 n] w fun e w' => e = .returned (.bool (bits .and .u64 (x / 2 ^ n.toNat) 1 == 1)) ∧ Below w.heap.size w w' := by
  have HCS := Aside0.mk hcs
  have HB := Aside0.mk (Below.refl w.heap.size w)
  have HX := Aside0.mk hx
  clear hx
  have A1 := Aside0.mk (show spec_l00In.f b 0 63 = some true from (l00In_f b 0 63).trans (congrArg some (decide_eq_true hb)))
  have A2 := Aside0.mk (show spec_l00In.f n 0 63 = some true from (l00In_f n 0 63).trans (congrArg some (decide_eq_true hn)))
  have hb0 := hb.1
  have hb64 : b < 64 := by omega
  have hn0 := hn.1
  have hn1 := hn.2
  clear hb hn
  clear hcs
  go_enter Try.func18, Try.ntmps18
  go_wp2_with (first | ((with_reducible refine gate_dst (N := 3) rfl ?_); refine box_event ?hg (N := 3) ?hd (cs := c) (t := 31) ?hr ?_; (case hd => rfl); (case hg => rfl); (case hr => first | (go_simp; done) | (go_simp; rfl) | rfl); intro g3 hg w3 hbox hb; have n0_ := Aside0.mk (below_step (by repeat (first | (with_reducible first | exact HB.out | apply below_alloc | apply pw_below_drewN | apply below_drew1) | exact HB.out)) hb); have n1_ := Aside0.mk hbox; clear HB; have HB := n0_; have BK3 := n1_; clear n0_ n1_; clear hb hbox hg; have hcA : w3.cell? ⟨g3, b.toNat, none⟩ = some (.int .u64 x) := (blk_cell BK3.out b.toNat).trans HX.out; have hfA := blk_frozen BK3.out b.toNat) | ((with_reducible refine gate_callee (f := 58) rfl ?_); refine goesL_ (some 8) rfl rfl Try.func58 (by kernel_rfl) rfl #[.int .i64 b, .int .i64 0, .int .i64 63] rfl (by (try simp only [List.map_toArray, List.map_cons, List.map_nil]); first | done | rfl | (simp only [List.length_drop, List.length_take]; rfl)) ?_; (with_reducible refine (spec_l00In.calls b 0 63 true _ A1.out).mono ?_); rintro e w' ⟨rfl, ⟨nd, rfl⟩⟩; refine ⟨_, rfl, ?_⟩) | (go_at_call 58; (with_reducible refine (spec_l00In.calls n 0 63 true _ A2.out).mono ?_); rintro e w' ⟨rfl, ⟨nd, rfl⟩⟩))
  go_ret
  exact ⟨by first | rfl | (simp; done) | (simp [*]; done), by repeat (first | (with_reducible first | exact HB.out | apply below_alloc | apply pw_below_drewN | apply below_drew1) | exact HB.out)⟩
set_option maxHeartbeats 8000000 in
set_option maxRecDepth 100000 in
theorem spec_o1 (c : Array Value) (hcs : c.size = 64) (b n : Int) (hb : ¬ (0 ≤ b ∧ b ≤ 63)) (w : World) :
    Calls Try.prog 18 #[.agg c, .int .i64 b, .int .i64 n] w fun e w' => e = .returned (.bool false) ∧ Below w.heap.size w w' := by
  have HCS := Aside0.mk hcs
  have HB := Aside0.mk (Below.refl w.heap.size w)
  have A1 := Aside0.mk (show spec_l00In.f b 0 63 = some false from (l00In_f b 0 63).trans (congrArg some (decide_eq_false hb)))
  clear hb
  clear hcs
  go_enter Try.func18, Try.ntmps18
  go_wp2_with (first | ((with_reducible refine gate_dst (N := 3) rfl ?_); refine box_event ?hg (N := 3) ?hd (cs := c) (t := 31) ?hr ?_; (case hd => rfl); (case hg => rfl); (case hr => first | (go_simp; done) | (go_simp; rfl) | rfl); intro g3 hg w3 hbox hb; have n0_ := Aside0.mk (below_step (by repeat (first | (with_reducible first | exact HB.out | apply below_alloc | apply pw_below_drewN | apply below_drew1) | exact HB.out)) hb); have n1_ := Aside0.mk hbox; clear HB; have HB := n0_; have BK3 := n1_; clear n0_ n1_; clear hb hbox hg) | ((with_reducible refine gate_callee (f := 58) rfl ?_); refine goesL_ (some 8) rfl rfl Try.func58 (by kernel_rfl) rfl #[.int .i64 b, .int .i64 0, .int .i64 63] rfl (by (try simp only [List.map_toArray, List.map_cons, List.map_nil]); first | done | rfl | (simp only [List.length_drop, List.length_take]; rfl)) ?_; (with_reducible refine (spec_l00In.calls b 0 63 false _ A1.out).mono ?_); rintro e w' ⟨rfl, ⟨nd, rfl⟩⟩; refine ⟨_, rfl, ?_⟩))
  go_ret
  exact ⟨by first | rfl | (simp; done) | (simp [*]; done), by repeat (first | (with_reducible first | exact HB.out | apply below_alloc | apply pw_below_drewN | apply below_drew1) | exact HB.out)⟩
set_option maxHeartbeats 8000000 in
set_option maxRecDepth 100000 in
theorem spec_o2 (c : Array Value) (hcs : c.size = 64) (b n : Int) (hb : 0 ≤ b ∧ b ≤ 63) (hn : ¬ (0 ≤ n ∧ n ≤ 63)) (w : World) :
    Calls Try.prog 18 #[.agg c, .int .i64 b, .int .i64 n] w fun e w' => e = .returned (.bool false) ∧ Below w.heap.size w w' := by
  have HCS := Aside0.mk hcs
  have HB := Aside0.mk (Below.refl w.heap.size w)
  have A1 := Aside0.mk (show spec_l00In.f b 0 63 = some true from (l00In_f b 0 63).trans (congrArg some (decide_eq_true hb)))
  have A2 := Aside0.mk (show spec_l00In.f n 0 63 = some false from (l00In_f n 0 63).trans (congrArg some (decide_eq_false hn)))
  clear hb hn
  clear hcs
  go_enter Try.func18, Try.ntmps18
  go_wp2_with (first | ((with_reducible refine gate_dst (N := 3) rfl ?_); refine box_event ?hg (N := 3) ?hd (cs := c) (t := 31) ?hr ?_; (case hd => rfl); (case hg => rfl); (case hr => first | (go_simp; done) | (go_simp; rfl) | rfl); intro g3 hg w3 hbox hb; have n0_ := Aside0.mk (below_step (by repeat (first | (with_reducible first | exact HB.out | apply below_alloc | apply pw_below_drewN | apply below_drew1) | exact HB.out)) hb); have n1_ := Aside0.mk hbox; clear HB; have HB := n0_; have BK3 := n1_; clear n0_ n1_; clear hb hbox hg) | ((with_reducible refine gate_callee (f := 58) rfl ?_); refine goesL_ (some 8) rfl rfl Try.func58 (by kernel_rfl) rfl #[.int .i64 b, .int .i64 0, .int .i64 63] rfl (by (try simp only [List.map_toArray, List.map_cons, List.map_nil]); first | done | rfl | (simp only [List.length_drop, List.length_take]; rfl)) ?_; (with_reducible refine (spec_l00In.calls b 0 63 true _ A1.out).mono ?_); rintro e w' ⟨rfl, ⟨nd, rfl⟩⟩; refine ⟨_, rfl, ?_⟩) | (go_at_call 58; (with_reducible refine (spec_l00In.calls n 0 63 false _ A2.out).mono ?_); rintro e w' ⟨rfl, ⟨nd, rfl⟩⟩))
  go_ret
  exact ⟨by first | rfl | (simp; done) | (simp [*]; done), by repeat (first | (with_reducible first | exact HB.out | apply below_alloc | apply pw_below_drewN | apply below_drew1) | exact HB.out)⟩
theorem spec_res (c : Array Value) (hcs : c.size = 64) (hc : ∀ j, j < 64 → ∃ x, c[j]? = some (.int .u64 x)) (b n : Int) (w : World) :
    Calls Try.prog 18 #[.agg c, .int .i64 b, .int .i64 n] w fun e w' => e = .returned (.bool (res c b n)) ∧ Below w.heap.size w w' := by
  unfold res
  by_cases hb : 0 ≤ b ∧ b ≤ 63
  · by_cases hn : 0 ≤ n ∧ n ≤ 63
    · obtain ⟨x, hx⟩ := hc b.toNat (by omega)
      rw [if_pos ⟨hb, hn⟩, hx]
      exact spec_in c hcs b n x hb hn hx w
    · rw [if_neg (fun q => hn q.2)]; exact spec_o2 c hcs b n hb hn w
  · rw [if_neg (fun q => hb q.1)]; exact spec_o1 c hcs b n hb w
set_option maxHeartbeats 8000000 in
set_option maxRecDepth 100000 in
theorem impl_in (c : Array Value) (hcs : c.size = 64) (b n : Int) (x : Int) (hb : 0 ≤ b ∧ b ≤ 63) (hn : 0 ≤ n ∧ n ≤ 63) (hx : c[b.toNat]? = some (.int .u64 x)) (w : World) :
    Calls Try.prog 20 #[.agg c, .int .i64 b, .int .i64 n] w fun e w' => e = .returned (.bool (bits .and .u64 (x / 2 ^ n.toNat) 1 == 1)) ∧ Below w.heap.size w w' := by
  have HCS := Aside0.mk hcs
  have HB := Aside0.mk (Below.refl w.heap.size w)
  have HX := Aside0.mk hx
  clear hx
  have A1 := Aside0.mk (show impl_isPlace.f b 64 = some true from (isPlace_f b).trans (congrArg some (decide_eq_true hb)))
  have A2 := Aside0.mk (show impl_isPlace.f n 64 = some true from (isPlace_f n).trans (congrArg some (decide_eq_true hn)))
  have hb0 := hb.1
  have hb64 : b < 64 := by omega
  have hn0 := hn.1
  have hn1 := hn.2
  clear hb hn
  clear hcs
  go_enter Try.func20, Try.ntmps20
  go_wp2_with (first | ((with_reducible refine gate_dst (N := 3) rfl ?_); refine box_event ?hg (N := 3) ?hd (cs := c) (t := 31) ?hr ?_; (case hd => rfl); (case hg => rfl); (case hr => first | (go_simp; done) | (go_simp; rfl) | rfl); intro g3 hg w3 hbox hb; have n0_ := Aside0.mk (below_step (by repeat (first | (with_reducible first | exact HB.out | apply below_alloc | apply pw_below_drewN | apply below_drew1) | exact HB.out)) hb); have n1_ := Aside0.mk hbox; clear HB; have HB := n0_; have BK3 := n1_; clear n0_ n1_; clear hb hbox hg; have hcA : w3.cell? ⟨g3, b.toNat, none⟩ = some (.int .u64 x) := (blk_cell BK3.out b.toNat).trans HX.out; have hfA := blk_frozen BK3.out b.toNat) | ((with_reducible refine gate_callee (f := 59) rfl ?_); refine goesL_ (some 8) rfl rfl Try.func59 (by kernel_rfl) rfl #[.int .i64 b, .int .i64 64] rfl (by (try simp only [List.map_toArray, List.map_cons, List.map_nil]); first | done | rfl | (simp only [List.length_drop, List.length_take]; rfl)) ?_; (with_reducible refine (impl_isPlace.calls b 64 true _ A1.out).mono ?_); rintro e w' ⟨rfl, ⟨nd, rfl⟩⟩; refine ⟨_, rfl, ?_⟩) | (go_at_call 59; (with_reducible refine (impl_isPlace.calls n 64 true _ A2.out).mono ?_); rintro e w' ⟨rfl, ⟨nd, rfl⟩⟩))
  go_ret
  exact ⟨by first | rfl | (simp; done) | (simp [*]; done), by repeat (first | (with_reducible first | exact HB.out | apply below_alloc | apply pw_below_drewN | apply below_drew1) | exact HB.out)⟩
set_option maxHeartbeats 8000000 in
set_option maxRecDepth 100000 in
theorem impl_o1 (c : Array Value) (hcs : c.size = 64) (b n : Int) (hb : ¬ (0 ≤ b ∧ b ≤ 63)) (w : World) :
    Calls Try.prog 20 #[.agg c, .int .i64 b, .int .i64 n] w fun e w' => e = .returned (.bool false) ∧ Below w.heap.size w w' := by
  have HCS := Aside0.mk hcs
  have HB := Aside0.mk (Below.refl w.heap.size w)
  have A1 := Aside0.mk (show impl_isPlace.f b 64 = some false from (isPlace_f b).trans (congrArg some (decide_eq_false hb)))
  clear hb
  clear hcs
  go_enter Try.func20, Try.ntmps20
  go_wp2_with (first | ((with_reducible refine gate_dst (N := 3) rfl ?_); refine box_event ?hg (N := 3) ?hd (cs := c) (t := 31) ?hr ?_; (case hd => rfl); (case hg => rfl); (case hr => first | (go_simp; done) | (go_simp; rfl) | rfl); intro g3 hg w3 hbox hb; have n0_ := Aside0.mk (below_step (by repeat (first | (with_reducible first | exact HB.out | apply below_alloc | apply pw_below_drewN | apply below_drew1) | exact HB.out)) hb); have n1_ := Aside0.mk hbox; clear HB; have HB := n0_; have BK3 := n1_; clear n0_ n1_; clear hb hbox hg) | ((with_reducible refine gate_callee (f := 59) rfl ?_); refine goesL_ (some 8) rfl rfl Try.func59 (by kernel_rfl) rfl #[.int .i64 b, .int .i64 64] rfl (by (try simp only [List.map_toArray, List.map_cons, List.map_nil]); first | done | rfl | (simp only [List.length_drop, List.length_take]; rfl)) ?_; (with_reducible refine (impl_isPlace.calls b 64 false _ A1.out).mono ?_); rintro e w' ⟨rfl, ⟨nd, rfl⟩⟩; refine ⟨_, rfl, ?_⟩))
  go_ret
  exact ⟨by first | rfl | (simp; done) | (simp [*]; done), by repeat (first | (with_reducible first | exact HB.out | apply below_alloc | apply pw_below_drewN | apply below_drew1) | exact HB.out)⟩
set_option maxHeartbeats 8000000 in
set_option maxRecDepth 100000 in
theorem impl_o2 (c : Array Value) (hcs : c.size = 64) (b n : Int) (hb : 0 ≤ b ∧ b ≤ 63) (hn : ¬ (0 ≤ n ∧ n ≤ 63)) (w : World) :
    Calls Try.prog 20 #[.agg c, .int .i64 b, .int .i64 n] w fun e w' => e = .returned (.bool false) ∧ Below w.heap.size w w' := by
  have HCS := Aside0.mk hcs
  have HB := Aside0.mk (Below.refl w.heap.size w)
  have A1 := Aside0.mk (show impl_isPlace.f b 64 = some true from (isPlace_f b).trans (congrArg some (decide_eq_true hb)))
  have A2 := Aside0.mk (show impl_isPlace.f n 64 = some false from (isPlace_f n).trans (congrArg some (decide_eq_false hn)))
  clear hb hn
  clear hcs
  go_enter Try.func20, Try.ntmps20
  go_wp2_with (first | ((with_reducible refine gate_dst (N := 3) rfl ?_); refine box_event ?hg (N := 3) ?hd (cs := c) (t := 31) ?hr ?_; (case hd => rfl); (case hg => rfl); (case hr => first | (go_simp; done) | (go_simp; rfl) | rfl); intro g3 hg w3 hbox hb; have n0_ := Aside0.mk (below_step (by repeat (first | (with_reducible first | exact HB.out | apply below_alloc | apply pw_below_drewN | apply below_drew1) | exact HB.out)) hb); have n1_ := Aside0.mk hbox; clear HB; have HB := n0_; have BK3 := n1_; clear n0_ n1_; clear hb hbox hg) | ((with_reducible refine gate_callee (f := 59) rfl ?_); refine goesL_ (some 8) rfl rfl Try.func59 (by kernel_rfl) rfl #[.int .i64 b, .int .i64 64] rfl (by (try simp only [List.map_toArray, List.map_cons, List.map_nil]); first | done | rfl | (simp only [List.length_drop, List.length_take]; rfl)) ?_; (with_reducible refine (impl_isPlace.calls b 64 true _ A1.out).mono ?_); rintro e w' ⟨rfl, ⟨nd, rfl⟩⟩; refine ⟨_, rfl, ?_⟩) | (go_at_call 59; (with_reducible refine (impl_isPlace.calls n 64 false _ A2.out).mono ?_); rintro e w' ⟨rfl, ⟨nd, rfl⟩⟩))
  go_ret
  exact ⟨by first | rfl | (simp; done) | (simp [*]; done), by repeat (first | (with_reducible first | exact HB.out | apply below_alloc | apply pw_below_drewN | apply below_drew1) | exact HB.out)⟩
theorem impl_res (c : Array Value) (hcs : c.size = 64) (hc : ∀ j, j < 64 → ∃ x, c[j]? = some (.int .u64 x)) (b n : Int) (w : World) :
    Calls Try.prog 20 #[.agg c, .int .i64 b, .int .i64 n] w fun e w' => e = .returned (.bool (res c b n)) ∧ Below w.heap.size w w' := by
  unfold res
  by_cases hb : 0 ≤ b ∧ b ≤ 63
  · by_cases hn : 0 ≤ n ∧ n ≤ 63
    · obtain ⟨x, hx⟩ := hc b.toNat (by omega)
      rw [if_pos ⟨hb, hn⟩, hx]
      exact impl_in c hcs b n x hb hn hx w
    · rw [if_neg (fun q => hn q.2)]; exact impl_o2 c hcs b n hb hn w
  · rw [if_neg (fun q => hb q.1)]; exact impl_o1 c hcs b n hb w
set_option maxHeartbeats 8000000 in
set_option maxRecDepth 100000 in
theorem law (c : Array Value) (hcs : c.size = 64) (hc : ∀ j, j < 64 → ∃ x, c[j]? = some (.int .u64 x)) (b n : Int) (w : World) :
    Calls Try.prog 4 #[.agg c, .int .i64 b, .int .i64 n] w fun e w' => e = .returned (.bool true) ∧ Below w.heap.size w w' := by
  have HCS := Aside0.mk hcs
  have HC := Aside0.mk hc
  clear hcs hc
  have HB := Aside0.mk (Below.refl w.heap.size w)
  obtain ⟨r, hr⟩ : ∃ r, res c b n = r := ⟨_, rfl⟩
  have HR := Aside0.mk hr
  clear hr
  go_enter Try.func4, Try.ntmps4
  go_wp2_with (first | ((with_reducible refine gate_dst (N := 3) rfl ?_); refine box_event ?hg (N := 3) ?hd (cs := c) (t := 29) ?hr ?_; (case hd => rfl); (case hg => rfl); (case hr => first | (go_simp; done) | (go_simp; rfl) | rfl); intro g3 hg w3 hbox hb; have n0_ := Aside0.mk (below_step (by repeat (first | (with_reducible first | exact HB.out | apply below_alloc | apply pw_below_drewN | apply below_drew1) | exact HB.out)) hb); have n1_ := Aside0.mk hbox; clear HB; have HB := n0_; have BK3 := n1_; clear n0_ n1_; clear hb hbox hg) | ((with_reducible refine gate_dst (N := 9) rfl ?_); refine ev_load rfl rfl rfl BK3.out Try.underlying29 (by rw [HCS.out]; kernel_rfl) ?_) | ((with_reducible refine gate_dst (N := 14) rfl ?_); refine ev_load rfl rfl rfl BK3.out Try.underlying29 (by rw [HCS.out]; kernel_rfl) ?_) | ((with_reducible refine gate_callee (f := 19) rfl ?_); refine goesL_ (some 10) rfl rfl Try.func19 (by kernel_rfl) rfl #[.agg c] rfl (by (try simp only [List.map_toArray, List.map_cons, List.map_nil]); first | done | rfl | (simp only [List.length_drop, List.length_take]; rfl)) ?_; (with_reducible refine (toGrid c HCS.out HC.out _).mono ?_); rintro e w' ⟨rfl, hb⟩; have n0_ := Aside0.mk (below_step (by repeat (first | (with_reducible first | exact HB.out | apply below_alloc | apply pw_below_drewN | apply below_drew1) | exact HB.out)) hb); have m0_ := Aside0.mk (blk_below (by (with_reducible repeat (first | refine blk_drewN ?_ _ | refine blk_drew ?_ | refine blk_alloc ?_ _)); exact BK3.out) hb); clear HB; clear BK3; have HB := n0_; have BK3 := m0_; clear n0_ m0_; clear hb; refine ⟨_, rfl, ?_⟩) | ((with_reducible refine gate_callee (f := 19) rfl ?_); refine goesL_ (some 15) rfl rfl Try.func19 (by kernel_rfl) rfl #[.agg c] rfl (by (try simp only [List.map_toArray, List.map_cons, List.map_nil]); first | done | rfl | (simp only [List.length_drop, List.length_take]; rfl)) ?_; (with_reducible refine (toGrid c HCS.out HC.out _).mono ?_); rintro e w' ⟨rfl, hb⟩; have n0_ := Aside0.mk (below_step (by repeat (first | (with_reducible first | exact HB.out | apply below_alloc | apply pw_below_drewN | apply below_drew1) | exact HB.out)) hb); have m0_ := Aside0.mk (blk_below (by (with_reducible repeat (first | refine blk_drewN ?_ _ | refine blk_drew ?_ | refine blk_alloc ?_ _)); exact BK3.out) hb); clear HB; clear BK3; have HB := n0_; have BK3 := m0_; clear n0_ m0_; clear hb; refine ⟨_, rfl, ?_⟩) | ((with_reducible refine gate_callee (f := 18) rfl ?_); refine goesL_ (some 13) rfl rfl Try.func18 (by kernel_rfl) rfl #[.agg c, .int .i64 b, .int .i64 n] rfl (by (try simp only [List.map_toArray, List.map_cons, List.map_nil]); first | done | rfl | (simp only [List.length_drop, List.length_take]; rfl)) ?_; (with_reducible refine (HR.out ▸ spec_res c HCS.out HC.out b n _).mono ?_); rintro e w' ⟨rfl, hb⟩; have n0_ := Aside0.mk (below_step (by repeat (first | (with_reducible first | exact HB.out | apply below_alloc | apply pw_below_drewN | apply below_drew1) | exact HB.out)) hb); have m0_ := Aside0.mk (blk_below (by (with_reducible repeat (first | refine blk_drewN ?_ _ | refine blk_drew ?_ | refine blk_alloc ?_ _)); exact BK3.out) hb); clear HB; clear BK3; have HB := n0_; have BK3 := m0_; clear n0_ m0_; clear hb; refine ⟨_, rfl, ?_⟩) | ((with_reducible refine gate_callee (f := 20) rfl ?_); refine goesL_ (some 18) rfl rfl Try.func20 (by kernel_rfl) rfl #[.agg c, .int .i64 b, .int .i64 n] rfl (by (try simp only [List.map_toArray, List.map_cons, List.map_nil]); first | done | rfl | (simp only [List.length_drop, List.length_take]; rfl)) ?_; (with_reducible refine (HR.out ▸ impl_res c HCS.out HC.out b n _).mono ?_); rintro e w' ⟨rfl, hb⟩; have n0_ := Aside0.mk (below_step (by repeat (first | (with_reducible first | exact HB.out | apply below_alloc | apply pw_below_drewN | apply below_drew1) | exact HB.out)) hb); have m0_ := Aside0.mk (blk_below (by (with_reducible repeat (first | refine blk_drewN ?_ _ | refine blk_drew ?_ | refine blk_alloc ?_ _)); exact BK3.out) hb); clear HB; clear BK3; have HB := n0_; have BK3 := m0_; clear n0_ m0_; clear hb; refine ⟨_, rfl, ?_⟩))
  go_ret
  exact ⟨by first | rfl | (simp; done) | (simp [*]; done), by repeat (first | (with_reducible first | exact HB.out | apply below_alloc | apply pw_below_drewN | apply below_drew1) | exact HB.out)⟩
end Go.Proofs.Ytcclfndbglgbiaa.FFnExactHasPair
