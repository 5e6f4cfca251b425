import Derived.Test.YtcclfndbglgbiaaProg
import Derived.Below
import Derived.Deep.Draws
import Derived.Deep.AppendLies
import Derived.Maps.AppendAt
import Derived.OwnWalk
import Derived.Laws.BytesArg
import Derived.Laws.MakeOwn
import Derived.Laws.OwnMore
import Derived.Deep.OwnRows
import Derived.Tactics
import Derived.Lib.ConvBytes
import Derived.Laws.Slices
import Derived.WalkKit
import Derived.KernelRfl
import Derived.RowKit3
import Derived.Deep.LoopGhost
import Derived.Deep.QuietTactic
import Derived.BigQuiet
import Derived.WideLaws
import Derived.Deep.DeepCutAuto
import Derived.Deep.CutBlock
import Derived.Deep.RegionHeld3
import Derived.Laws.Rows
import Derived.Lib.AppendStr
import Derived.ArgAppend
import Derived.Laws.IdiomCopy
import Derived.OrdersHeld
import Derived.Laws.BitsLemmas
import Derived.RowKit
import Derived.Test.YtcclfndbglgbiaaWWords
import Derived.Test.YtcclfndbglgbiaaWLast
import Derived.Test.YtcclfndbglgbiaaWTab
import Derived.Test.YtcclfndbglgbiaaWFour
import Derived.Test.YtcclfndbglgbiaaWQPut
import Derived.Test.YtcclfndbglgbiaaWApart
import Derived.Test.YtcclfndbglgbiaaWArr
import Derived.Test.YtcclfndbglgbiaaWZeros
import Derived.Test.YtcclfndbglgbiaaWFoot
import Derived.Test.YtcclfndbglgbiaaWKept
import Derived.Test.YtcclfndbglgbiaaWShare
import Derived.Test.YtcclfndbglgbiaaWN
import Derived.Test.YtcclfndbglgbiaaWFootNe
import Derived.Test.YtcclfndbglgbiaaWAt
import Derived.Test.YtcclfndbglgbiaaWEqStruct
import Derived.Test.YtcclfndbglgbiaaWRepsOne
import Derived.Test.YtcclfndbglgbiaaWInv
import Derived.Test.YtcclfndbglgbiaaWInvWords
import Derived.Test.YtcclfndbglgbiaaWGuard
import Derived.Test.YtcclfndbglgbiaaWNEv
import Derived.Test.YtcclfndbglgbiaaWMore
import Derived.Test.YtcclfndbglgbiaaArr
import Derived.Test.YtcclfndbglgbiaaPFnExactValidMarkx1
namespace Go.Proofs.Ytcclfndbglgbiaa.FFnExactValidMark
open Go.RowKit Go.Proofs.YtcclfndbglgbiaaW.PrintWords Go.Proofs.YtcclfndbglgbiaaW.PrintLast Go.Proofs.YtcclfndbglgbiaaW.PrintMore
set_option linter.unusedVariables false
set_option linter.unusedSimpArgs false
open Go.Proofs.Ytcclfndbglgbiaa.Arr Go.Proofs.Ytcclfndbglgbiaa.PFnExactValidMark
theorem l00In_f (a lo hi : Int) : spec_l00In.f a lo hi = some (decide (lo ≤ a ∧ a ≤ hi)) := by
  unfold spec_l00In.f
  by_cases h : a ≥ lo
  · rw [if_pos h]; exact congrArg some (decide_eq_decide.2 ⟨fun x => ⟨h, x⟩, fun x => x.2⟩)
  · rw [if_neg h]; exact congrArg some (decide_eq_false (fun x => h x.1)).symm
theorem inRange_f (a lo hi : Int) : impl_inRange.f a lo hi = some (decide (lo ≤ a ∧ a ≤ hi)) := by
  unfold impl_inRange.f
  by_cases h : lo ≤ a
  · rw [if_pos h]; exact congrArg some (decide_eq_decide.2 ⟨fun x => ⟨h, x⟩, fun x => x.2⟩)
  · rw [if_neg h]; exact congrArg some (decide_eq_false (fun x => h x.1)).symm
set_option maxHeartbeats 8000000 in
set_option maxRecDepth 100000 in
theorem mark_tt (c : Array Value) (hcs : c.size = 2) (a b : Int) (h0 : c[0]? = some (.int .i16 a)) (h1 : c[1]? = some (.int .i16 b)) (ha : 0 ≤ wrap64 a ∧ wrap64 a ≤ 63) (hb : 0 ≤ wrap64 b ∧ wrap64 b ≤ 63) (w : World) :
    Calls Try.prog 60 #[.agg c] w fun e w' => e = .returned (.bool true) ∧ Below w.heap.size w w' := by
  have HCS := Aside0.mk hcs
  have H0 := Aside0.mk h0
  have H1 := Aside0.mk h1
  clear hcs h0 h1
  have HB := Aside0.mk (Below.refl w.heap.size w)
  have A1 := Aside0.mk (show spec_l00In.f (wrap64 a) 0 63 = some true from (l00In_f (wrap64 a) 0 63).trans (congrArg some (decide_eq_true ha)))
  have A2 := Aside0.mk (show spec_l00In.f (wrap64 b) 0 63 = some true from (l00In_f (wrap64 b) 0 63).trans (congrArg some (decide_eq_true hb)))
  clear ha hb
  go_enter Try.func60, Try.ntmps60
  go_wp2_with (first | ((with_reducible refine gate_dst (N := 1) rfl ?_); refine box_event ?hg (N := 1) ?hd (cs := c) (t := 37) ?hr ?_; (case hd => rfl); (case hg => rfl); (case hr => first | (go_simp; done) | (go_simp; rfl) | rfl); intro g1 hg w1 hbox hb; have n0_ := Aside0.mk (below_step (by repeat (first | (with_reducible first | exact HB.out | apply below_alloc | apply pw_below_drewN | apply below_drew1) | exact HB.out)) hb); have n1_ := Aside0.mk hbox; clear HB; have HB := n0_; have BK1 := n1_; clear n0_ n1_; clear hb hbox hg; have hcA : w1.cell? ⟨g1, 0, none⟩ = some (.int .i16 a) := (blk_cell BK1.out 0).trans H0.out; have hfA := blk_frozen BK1.out 0; have hcB : w1.cell? ⟨g1, 1, none⟩ = some (.int .i16 b) := (blk_cell BK1.out 1).trans H1.out; have hfB := blk_frozen BK1.out 1) | ((with_reducible refine gate_callee (f := 58) rfl ?_); refine goesL_ (some 6) rfl rfl Try.func58 (by kernel_rfl) rfl #[.int .i64 (wrap64 a), .int .i64 0, .int .i64 63] rfl (by (try simp only [List.map_toArray, List.map_cons, List.map_nil]); first | done | rfl | (simp only [List.length_drop, List.length_take]; rfl)) ?_; (with_reducible refine (spec_l00In.calls (wrap64 a) 0 63 true _ A1.out).mono ?_); rintro e w' ⟨rfl, ⟨nd, rfl⟩⟩; refine ⟨_, rfl, ?_⟩) | (go_at_call 58; (with_reducible refine (spec_l00In.calls (wrap64 b) 0 63 true _ A2.out).mono ?_); rintro e w' ⟨rfl, ⟨nd, rfl⟩⟩))
  go_ret
  exact ⟨by first | rfl | (simp; done) | (simp [*]; done), by repeat (first | (with_reducible first | exact HB.out | apply below_alloc | apply pw_below_drewN | apply below_drew1) | exact HB.out)⟩
set_option maxHeartbeats 8000000 in
set_option maxRecDepth 100000 in
theorem mark_tf (c : Array Value) (hcs : c.size = 2) (a b : Int) (h0 : c[0]? = some (.int .i16 a)) (h1 : c[1]? = some (.int .i16 b)) (ha : 0 ≤ wrap64 a ∧ wrap64 a ≤ 63) (hb : ¬ (0 ≤ wrap64 b ∧ wrap64 b ≤ 63)) (w : World) :
    Calls Try.prog 60 #[.agg c] w fun e w' => e = .returned (.bool false) ∧ Below w.heap.size w w' := by
  have HCS := Aside0.mk hcs
  have H0 := Aside0.mk h0
  have H1 := Aside0.mk h1
  clear hcs h0 h1
  have HB := Aside0.mk (Below.refl w.heap.size w)
  have A1 := Aside0.mk (show spec_l00In.f (wrap64 a) 0 63 = some true from (l00In_f (wrap64 a) 0 63).trans (congrArg some (decide_eq_true ha)))
  have A2 := Aside0.mk (show spec_l00In.f (wrap64 b) 0 63 = some false from (l00In_f (wrap64 b) 0 63).trans (congrArg some (decide_eq_false hb)))
  clear ha hb
  go_enter Try.func60, Try.ntmps60
  go_wp2_with (first | ((with_reducible refine gate_dst (N := 1) rfl ?_); refine box_event ?hg (N := 1) ?hd (cs := c) (t := 37) ?hr ?_; (case hd => rfl); (case hg => rfl); (case hr => first | (go_simp; done) | (go_simp; rfl) | rfl); intro g1 hg w1 hbox hb; have n0_ := Aside0.mk (below_step (by repeat (first | (with_reducible first | exact HB.out | apply below_alloc | apply pw_below_drewN | apply below_drew1) | exact HB.out)) hb); have n1_ := Aside0.mk hbox; clear HB; have HB := n0_; have BK1 := n1_; clear n0_ n1_; clear hb hbox hg; have hcA : w1.cell? ⟨g1, 0, none⟩ = some (.int .i16 a) := (blk_cell BK1.out 0).trans H0.out; have hfA := blk_frozen BK1.out 0; have hcB : w1.cell? ⟨g1, 1, none⟩ = some (.int .i16 b) := (blk_cell BK1.out 1).trans H1.out; have hfB := blk_frozen BK1.out 1) | ((with_reducible refine gate_callee (f := 58) rfl ?_); refine goesL_ (some 6) rfl rfl Try.func58 (by kernel_rfl) rfl #[.int .i64 (wrap64 a), .int .i64 0, .int .i64 63] rfl (by (try simp only [List.map_toArray, List.map_cons, List.map_nil]); first | done | rfl | (simp only [List.length_drop, List.length_take]; rfl)) ?_; (with_reducible refine (spec_l00In.calls (wrap64 a) 0 63 true _ A1.out).mono ?_); rintro e w' ⟨rfl, ⟨nd, rfl⟩⟩; refine ⟨_, rfl, ?_⟩) | (go_at_call 58; (with_reducible refine (spec_l00In.calls (wrap64 b) 0 63 false _ A2.out).mono ?_); rintro e w' ⟨rfl, ⟨nd, rfl⟩⟩))
  go_ret
  exact ⟨by first | rfl | (simp; done) | (simp [*]; done), by repeat (first | (with_reducible first | exact HB.out | apply below_alloc | apply pw_below_drewN | apply below_drew1) | exact HB.out)⟩
set_option maxHeartbeats 8000000 in
set_option maxRecDepth 100000 in
theorem mark_f (c : Array Value) (hcs : c.size = 2) (a b : Int) (h0 : c[0]? = some (.int .i16 a)) (h1 : c[1]? = some (.int .i16 b)) (ha : ¬ (0 ≤ wrap64 a ∧ wrap64 a ≤ 63)) (w : World) :
    Calls Try.prog 60 #[.agg c] w fun e w' => e = .returned (.bool false) ∧ Below w.heap.size w w' := by
  have HCS := Aside0.mk hcs
  have H0 := Aside0.mk h0
  have H1 := Aside0.mk h1
  clear hcs h0 h1
  have HB := Aside0.mk (Below.refl w.heap.size w)
  have A1 := Aside0.mk (show spec_l00In.f (wrap64 a) 0 63 = some false from (l00In_f (wrap64 a) 0 63).trans (congrArg some (decide_eq_false ha)))
  clear ha
  go_enter Try.func60, Try.ntmps60
  go_wp2_with (first | ((with_reducible refine gate_dst (N := 1) rfl ?_); refine box_event ?hg (N := 1) ?hd (cs := c) (t := 37) ?hr ?_; (case hd => rfl); (case hg => rfl); (case hr => first | (go_simp; done) | (go_simp; rfl) | rfl); intro g1 hg w1 hbox hb; have n0_ := Aside0.mk (below_step (by repeat (first | (with_reducible first | exact HB.out | apply below_alloc | apply pw_below_drewN | apply below_drew1) | exact HB.out)) hb); have n1_ := Aside0.mk hbox; clear HB; have HB := n0_; have BK1 := n1_; clear n0_ n1_; clear hb hbox hg; have hcA : w1.cell? ⟨g1, 0, none⟩ = some (.int .i16 a) := (blk_cell BK1.out 0).trans H0.out; have hfA := blk_frozen BK1.out 0; have hcB : w1.cell? ⟨g1, 1, none⟩ = some (.int .i16 b) := (blk_cell BK1.out 1).trans H1.out; have hfB := blk_frozen BK1.out 1) | ((with_reducible refine gate_callee (f := 58) rfl ?_); refine goesL_ (some 6) rfl rfl Try.func58 (by kernel_rfl) rfl #[.int .i64 (wrap64 a), .int .i64 0, .int .i64 63] rfl (by (try simp only [List.map_toArray, List.map_cons, List.map_nil]); first | done | rfl | (simp only [List.length_drop, List.length_take]; rfl)) ?_; (with_reducible refine (spec_l00In.calls (wrap64 a) 0 63 false _ A1.out).mono ?_); rintro e w' ⟨rfl, ⟨nd, rfl⟩⟩; refine ⟨_, rfl, ?_⟩))
  go_ret
  exact ⟨by first | rfl | (simp; done) | (simp [*]; done), by repeat (first | (with_reducible first | exact HB.out | apply below_alloc | apply pw_below_drewN | apply below_drew1) | exact HB.out)⟩
theorem mark_res (c : Array Value) (hcs : c.size = 2) (a b : Int) (h0 : c[0]? = some (.int .i16 a)) (h1 : c[1]? = some (.int .i16 b)) (w : World) :
    Calls Try.prog 60 #[.agg c] w fun e w' => e = .returned (.bool (decide ((0 ≤ wrap64 a ∧ wrap64 a ≤ 63) ∧ 0 ≤ wrap64 b ∧ wrap64 b ≤ 63))) ∧ Below w.heap.size w w' := by
  by_cases ha : 0 ≤ wrap64 a ∧ wrap64 a ≤ 63
  · by_cases hb : 0 ≤ wrap64 b ∧ wrap64 b ≤ 63
    · rw [decide_eq_true ⟨ha, hb⟩]; exact mark_tt c hcs a b h0 h1 ha hb w
    · rw [decide_eq_false (fun q => hb q.2)]; exact mark_tf c hcs a b h0 h1 ha hb w
  · rw [decide_eq_false (fun q => ha q.1)]; exact mark_f c hcs a b h0 h1 ha w
set_option maxHeartbeats 8000000 in
set_option maxRecDepth 100000 in
theorem impl_tt (c : Array Value) (hcs : c.size = 2) (a b : Int) (h0 : c[0]? = some (.int .i16 a)) (h1 : c[1]? = some (.int .i16 b)) (ha : 0 ≤ wrap64 a ∧ wrap64 a ≤ 63) (hb : 0 ≤ wrap64 b ∧ wrap64 b ≤ 63) (w : World) :
    Calls Try.prog 23 #[.agg c] w fun e w' => e = .returned (.bool true) ∧ Below w.heap.size w w' := by
  have HCS := Aside0.mk hcs
  have H0 := Aside0.mk h0
  have H1 := Aside0.mk h1
  clear hcs h0 h1
  have HB := Aside0.mk (Below.refl w.heap.size w)
  have A1 := Aside0.mk (show impl_inRange.f (wrap64 a) 0 63 = some true from (inRange_f (wrap64 a) 0 63).trans (congrArg some (decide_eq_true ha)))
  have A2 := Aside0.mk (show impl_inRange.f (wrap64 b) 0 63 = some true from (inRange_f (wrap64 b) 0 63).trans (congrArg some (decide_eq_true hb)))
  clear ha hb
  go_enter Try.func23, Try.ntmps23
  go_wp2_with (first | ((with_reducible refine gate_dst (N := 1) rfl ?_); refine box_event ?hg (N := 1) ?hd (cs := c) (t := 37) ?hr ?_; (case hd => rfl); (case hg => rfl); (case hr => first | (go_simp; done) | (go_simp; rfl) | rfl); intro g1 hg w1 hbox hb; have n0_ := Aside0.mk (below_step (by repeat (first | (with_reducible first | exact HB.out | apply below_alloc | apply pw_below_drewN | apply below_drew1) | exact HB.out)) hb); have n1_ := Aside0.mk hbox; clear HB; have HB := n0_; have BK1 := n1_; clear n0_ n1_; clear hb hbox hg; have hcA : w1.cell? ⟨g1, 0, none⟩ = some (.int .i16 a) := (blk_cell BK1.out 0).trans H0.out; have hfA := blk_frozen BK1.out 0; have hcB : w1.cell? ⟨g1, 1, none⟩ = some (.int .i16 b) := (blk_cell BK1.out 1).trans H1.out; have hfB := blk_frozen BK1.out 1) | ((with_reducible refine gate_callee (f := 56) rfl ?_); refine goesL_ (some 6) rfl rfl Try.func56 (by kernel_rfl) rfl #[.int .i64 (wrap64 a), .int .i64 0, .int .i64 63] rfl (by (try simp only [List.map_toArray, List.map_cons, List.map_nil]); first | done | rfl | (simp only [List.length_drop, List.length_take]; rfl)) ?_; (with_reducible refine (impl_inRange.calls (wrap64 a) 0 63 true _ A1.out).mono ?_); rintro e w' ⟨rfl, ⟨nd, rfl⟩⟩; refine ⟨_, rfl, ?_⟩) | (go_at_call 56; (with_reducible refine (impl_inRange.calls (wrap64 b) 0 63 true _ A2.out).mono ?_); rintro e w' ⟨rfl, ⟨nd, rfl⟩⟩))
  go_ret
  exact ⟨by first | rfl | (simp; done) | (simp [*]; done), by repeat (first | (with_reducible first | exact HB.out | apply below_alloc | apply pw_below_drewN | apply below_drew1) | exact HB.out)⟩
set_option maxHeartbeats 8000000 in
set_option maxRecDepth 100000 in
theorem impl_tf (c : Array Value) (hcs : c.size = 2) (a b : Int) (h0 : c[0]? = some (.int .i16 a)) (h1 : c[1]? = some (.int .i16 b)) (ha : 0 ≤ wrap64 a ∧ wrap64 a ≤ 63) (hb : ¬ (0 ≤ wrap64 b ∧ wrap64 b ≤ 63)) (w : World) :
    Calls Try.prog 23 #[.agg c] w fun e w' => e = .returned (.bool false) ∧ Below w.heap.size w w' := by
  have HCS := Aside0.mk hcs
  have H0 := Aside0.mk h0
  have H1 := Aside0.mk h1
  clear hcs h0 h1
  have HB := Aside0.mk (Below.refl w.heap.size w)
  have A1 := Aside0.mk (show impl_inRange.f (wrap64 a) 0 63 = some true from (inRange_f (wrap64 a) 0 63).trans (congrArg some (decide_eq_true ha)))
  have A2 := Aside0.mk (show impl_inRange.f (wrap64 b) 0 63 = some false from (inRange_f (wrap64 b) 0 63).trans (congrArg some (decide_eq_false hb)))
  clear ha hb
  go_enter Try.func23, Try.ntmps23
  go_wp2_with (first | ((with_reducible refine gate_dst (N := 1) rfl ?_); refine box_event ?hg (N := 1) ?hd (cs := c) (t := 37) ?hr ?_; (case hd => rfl); (case hg => rfl); (case hr => first | (go_simp; done) | (go_simp; rfl) | rfl); intro g1 hg w1 hbox hb; have n0_ := Aside0.mk (below_step (by repeat (first | (with_reducible first | exact HB.out | apply below_alloc | apply pw_below_drewN | apply below_drew1) | exact HB.out)) hb); have n1_ := Aside0.mk hbox; clear HB; have HB := n0_; have BK1 := n1_; clear n0_ n1_; clear hb hbox hg; have hcA : w1.cell? ⟨g1, 0, none⟩ = some (.int .i16 a) := (blk_cell BK1.out 0).trans H0.out; have hfA := blk_frozen BK1.out 0; have hcB : w1.cell? ⟨g1, 1, none⟩ = some (.int .i16 b) := (blk_cell BK1.out 1).trans H1.out; have hfB := blk_frozen BK1.out 1) | ((with_reducible refine gate_callee (f := 56) rfl ?_); refine goesL_ (some 6) rfl rfl Try.func56 (by kernel_rfl) rfl #[.int .i64 (wrap64 a), .int .i64 0, .int .i64 63] rfl (by (try simp only [List.map_toArray, List.map_cons, List.map_nil]); first | done | rfl | (simp only [List.length_drop, List.length_take]; rfl)) ?_; (with_reducible refine (impl_inRange.calls (wrap64 a) 0 63 true _ A1.out).mono ?_); rintro e w' ⟨rfl, ⟨nd, rfl⟩⟩; refine ⟨_, rfl, ?_⟩) | (go_at_call 56; (with_reducible refine (impl_inRange.calls (wrap64 b) 0 63 false _ A2.out).mono ?_); rintro e w' ⟨rfl, ⟨nd, rfl⟩⟩))
  go_ret
  exact ⟨by first | rfl | (simp; done) | (simp [*]; done), by repeat (first | (with_reducible first | exact HB.out | apply below_alloc | apply pw_below_drewN | apply below_drew1) | exact HB.out)⟩
set_option maxHeartbeats 8000000 in
set_option maxRecDepth 100000 in
theorem impl_f (c : Array Value) (hcs : c.size = 2) (a b : Int) (h0 : c[0]? = some (.int .i16 a)) (h1 : c[1]? = some (.int .i16 b)) (ha : ¬ (0 ≤ wrap64 a ∧ wrap64 a ≤ 63)) (w : World) :
    Calls Try.prog 23 #[.agg c] w fun e w' => e = .returned (.bool false) ∧ Below w.heap.size w w' := by
  have HCS := Aside0.mk hcs
  have H0 := Aside0.mk h0
  have H1 := Aside0.mk h1
  clear hcs h0 h1
  have HB := Aside0.mk (Below.refl w.heap.size w)
  have A1 := Aside0.mk (show impl_inRange.f (wrap64 a) 0 63 = some false from (inRange_f (wrap64 a) 0 63).trans (congrArg some (decide_eq_false ha)))
  clear ha
  go_enter Try.func23, Try.ntmps23
  go_wp2_with (first | ((with_reducible refine gate_dst (N := 1) rfl ?_); refine box_event ?hg (N := 1) ?hd (cs := c) (t := 37) ?hr ?_; (case hd => rfl); (case hg => rfl); (case hr => first | (go_simp; done) | (go_simp; rfl) | rfl); intro g1 hg w1 hbox hb; have n0_ := Aside0.mk (below_step (by repeat (first | (with_reducible first | exact HB.out | apply below_alloc | apply pw_below_drewN | apply below_drew1) | exact HB.out)) hb); have n1_ := Aside0.mk hbox; clear HB; have HB := n0_; have BK1 := n1_; clear n0_ n1_; clear hb hbox hg; have hcA : w1.cell? ⟨g1, 0, none⟩ = some (.int .i16 a) := (blk_cell BK1.out 0).trans H0.out; have hfA := blk_frozen BK1.out 0; have hcB : w1.cell? ⟨g1, 1, none⟩ = some (.int .i16 b) := (blk_cell BK1.out 1).trans H1.out; have hfB := blk_frozen BK1.out 1) | ((with_reducible refine gate_callee (f := 56) rfl ?_); refine goesL_ (some 6) rfl rfl Try.func56 (by kernel_rfl) rfl #[.int .i64 (wrap64 a), .int .i64 0, .int .i64 63] rfl (by (try simp only [List.map_toArray, List.map_cons, List.map_nil]); first | done | rfl | (simp only [List.length_drop, List.length_take]; rfl)) ?_; (with_reducible refine (impl_inRange.calls (wrap64 a) 0 63 false _ A1.out).mono ?_); rintro e w' ⟨rfl, ⟨nd, rfl⟩⟩; refine ⟨_, rfl, ?_⟩))
  go_ret
  exact ⟨by first | rfl | (simp; done) | (simp [*]; done), by repeat (first | (with_reducible first | exact HB.out | apply below_alloc | apply pw_below_drewN | apply below_drew1) | exact HB.out)⟩
theorem impl_res (c : Array Value) (hcs : c.size = 2) (a b : Int) (h0 : c[0]? = some (.int .i16 a)) (h1 : c[1]? = some (.int .i16 b)) (w : World) :
    Calls Try.prog 23 #[.agg c] w fun e w' => e = .returned (.bool (decide ((0 ≤ wrap64 a ∧ wrap64 a ≤ 63) ∧ 0 ≤ wrap64 b ∧ wrap64 b ≤ 63))) ∧ Below w.heap.size w w' := by
  by_cases ha : 0 ≤ wrap64 a ∧ wrap64 a ≤ 63
  · by_cases hb : 0 ≤ wrap64 b ∧ wrap64 b ≤ 63
    · rw [decide_eq_true ⟨ha, hb⟩]; exact impl_tt c hcs a b h0 h1 ha hb w
    · rw [decide_eq_false (fun q => hb q.2)]; exact impl_tf c hcs a b h0 h1 ha hb w
  · rw [decide_eq_false (fun q => ha q.1)]; exact impl_f c hcs a b h0 h1 ha w
set_option maxHeartbeats 8000000 in
set_option maxRecDepth 100000 in
theorem spec_res (c : Array Value) (hcs : c.size = 2) (a b : Int) (h0 : c[0]? = some (.int .i16 a)) (h1 : c[1]? = some (.int .i16 b)) (w : World) :
    Calls Try.prog 21 #[.agg c] w fun e w' => e = .returned (.bool (decide ((0 ≤ wrap64 a ∧ wrap64 a ≤ 63) ∧ 0 ≤ wrap64 b ∧ wrap64 b ≤ 63))) ∧ Below w.heap.size w w' := by
  have HCS := Aside0.mk hcs
  have H0 := Aside0.mk h0
  have H1 := Aside0.mk h1
  clear hcs h0 h1
  have HB := Aside0.mk (Below.refl w.heap.size w)
  obtain ⟨r, hr⟩ : ∃ r, (decide ((0 ≤ wrap64 a ∧ wrap64 a ≤ 63) ∧ 0 ≤ wrap64 b ∧ wrap64 b ≤ 63)) = r := ⟨_, rfl⟩
  rw [hr]
  have HR := Aside0.mk hr
  clear hr
  go_enter Try.func21, Try.ntmps21
  go_wp2_with (first | ((with_reducible refine gate_dst (N := 1) rfl ?_); refine box_event ?hg (N := 1) ?hd (cs := c) (t := 37) ?hr ?_; (case hd => rfl); (case hg => rfl); (case hr => first | (go_simp; done) | (go_simp; rfl) | rfl); intro g1 hg w1 hbox hb; have n0_ := Aside0.mk (below_step (by repeat (first | (with_reducible first | exact HB.out | apply below_alloc | apply pw_below_drewN | apply below_drew1) | exact HB.out)) hb); have n1_ := Aside0.mk hbox; clear HB; have HB := n0_; have BK1 := n1_; clear n0_ n1_; clear hb hbox hg) | ((with_reducible refine gate_dst (N := 3) rfl ?_); refine ev_load rfl rfl rfl BK1.out Try.underlying37 (by rw [HCS.out]; kernel_rfl) ?_) | ((with_reducible refine gate_callee (f := 60) rfl ?_); refine goesL_ (some 4) rfl rfl Try.func60 (by kernel_rfl) rfl #[.agg c] rfl (by (try simp only [List.map_toArray, List.map_cons, List.map_nil]); first | done | rfl | (simp only [List.length_drop, List.length_take]; rfl)) ?_; (with_reducible refine (HR.out ▸ mark_res c HCS.out a b H0.out H1.out _).mono ?_); rintro e w' ⟨rfl, hb⟩; have n0_ := Aside0.mk (below_step (by repeat (first | (with_reducible first | exact HB.out | apply below_alloc | apply pw_below_drewN | apply below_drew1) | exact HB.out)) hb); have m0_ := Aside0.mk (blk_below (by (with_reducible repeat (first | refine blk_drewN ?_ _ | refine blk_drew ?_ | refine blk_alloc ?_ _)); exact BK1.out) hb); clear HB; clear BK1; have HB := n0_; have BK1 := m0_; clear n0_ m0_; clear hb; refine ⟨_, rfl, ?_⟩))
  go_ret
  exact ⟨by first | rfl | (simp; done) | (simp [*]; done), by repeat (first | (with_reducible first | exact HB.out | apply below_alloc | apply pw_below_drewN | apply below_drew1) | exact HB.out)⟩
set_option maxHeartbeats 8000000 in
set_option maxRecDepth 100000 in
theorem law (c : Array Value) (hcs : c.size = 2) (hc : ∀ j, j < 2 → ∃ x, c[j]? = some (.int .i16 x)) (w : World) :
    Calls Try.prog 5 #[.agg c] w fun e w' => e = .returned (.bool true) ∧ Below w.heap.size w w' := by
  obtain ⟨a, h0⟩ := hc 0 (by omega)
  obtain ⟨b, h1⟩ := hc 1 (by omega)
  have HC := Aside0.mk hc
  clear hc
  have HCS := Aside0.mk hcs
  have H0 := Aside0.mk h0
  have H1 := Aside0.mk h1
  clear hcs h0 h1
  have HB := Aside0.mk (Below.refl w.heap.size w)
  obtain ⟨r, hr⟩ : ∃ r, (decide ((0 ≤ wrap64 a ∧ wrap64 a ≤ 63) ∧ 0 ≤ wrap64 b ∧ wrap64 b ≤ 63)) = r := ⟨_, rfl⟩
  have HR := Aside0.mk hr
  clear hr
  go_enter Try.func5, Try.ntmps5
  go_wp2_with (first | ((with_reducible refine gate_dst (N := 1) rfl ?_); refine box_event ?hg (N := 1) ?hd (cs := c) (t := 35) ?hr ?_; (case hd => rfl); (case hg => rfl); (case hr => first | (go_simp; done) | (go_simp; rfl) | rfl); intro g1 hg w1 hbox hb; have n0_ := Aside0.mk (below_step (by repeat (first | (with_reducible first | exact HB.out | apply below_alloc | apply pw_below_drewN | apply below_drew1) | exact HB.out)) hb); have n1_ := Aside0.mk hbox; clear HB; have HB := n0_; have BK1 := n1_; clear n0_ n1_; clear hb hbox hg) | ((with_reducible refine gate_dst (N := 5) rfl ?_); refine ev_load rfl rfl rfl BK1.out Try.underlying35 (by rw [HCS.out]; kernel_rfl) ?_) | ((with_reducible refine gate_dst (N := 8) rfl ?_); refine ev_load rfl rfl rfl BK1.out Try.underlying35 (by rw [HCS.out]; kernel_rfl) ?_) | ((with_reducible refine gate_callee (f := 22) rfl ?_); refine goesL_ (some 6) rfl rfl Try.func22 (by kernel_rfl) rfl #[.agg c] rfl (by (try simp only [List.map_toArray, List.map_cons, List.map_nil]); first | done | rfl | (simp only [List.length_drop, List.length_take]; rfl)) ?_; (with_reducible refine (toMark c HCS.out HC.out _).mono ?_); rintro e w' ⟨rfl, hb⟩; have n0_ := Aside0.mk (below_step (by repeat (first | (with_reducible first | exact HB.out | apply below_alloc | apply pw_below_drewN | apply below_drew1) | exact HB.out)) hb); have m0_ := Aside0.mk (blk_below (by (with_reducible repeat (first | refine blk_drewN ?_ _ | refine blk_drew ?_ | refine blk_alloc ?_ _)); exact BK1.out) hb); clear HB; clear BK1; have HB := n0_; have BK1 := m0_; clear n0_ m0_; clear hb; refine ⟨_, rfl, ?_⟩) | ((with_reducible refine gate_callee (f := 22) rfl ?_); refine goesL_ (some 9) rfl rfl Try.func22 (by kernel_rfl) rfl #[.agg c] rfl (by (try simp only [List.map_toArray, List.map_cons, List.map_nil]); first | done | rfl | (simp only [List.length_drop, List.length_take]; rfl)) ?_; (with_reducible refine (toMark c HCS.out HC.out _).mono ?_); rintro e w' ⟨rfl, hb⟩; have n0_ := Aside0.mk (below_step (by repeat (first | (with_reducible first | exact HB.out | apply below_alloc | apply pw_below_drewN | apply below_drew1) | exact HB.out)) hb); have m0_ := Aside0.mk (blk_below (by (with_reducible repeat (first | refine blk_drewN ?_ _ | refine blk_drew ?_ | refine blk_alloc ?_ _)); exact BK1.out) hb); clear HB; clear BK1; have HB := n0_; have BK1 := m0_; clear n0_ m0_; clear hb; refine ⟨_, rfl, ?_⟩) | ((with_reducible refine gate_callee (f := 21) rfl ?_); refine goesL_ (some 7) rfl rfl Try.func21 (by kernel_rfl) rfl #[.agg c] rfl (by (try simp only [List.map_toArray, List.map_cons, List.map_nil]); first | done | rfl | (simp only [List.length_drop, List.length_take]; rfl)) ?_; (with_reducible refine (HR.out ▸ spec_res c HCS.out a b H0.out H1.out _).mono ?_); rintro e w' ⟨rfl, hb⟩; have n0_ := Aside0.mk (below_step (by repeat (first | (with_reducible first | exact HB.out | apply below_alloc | apply pw_below_drewN | apply below_drew1) | exact HB.out)) hb); have m0_ := Aside0.mk (blk_below (by (with_reducible repeat (first | refine blk_drewN ?_ _ | refine blk_drew ?_ | refine blk_alloc ?_ _)); exact BK1.out) hb); clear HB; clear BK1; have HB := n0_; have BK1 := m0_; clear n0_ m0_; clear hb; refine ⟨_, rfl, ?_⟩) | ((with_reducible refine gate_callee (f := 23) rfl ?_); refine goesL_ (some 10) rfl rfl Try.func23 (by kernel_rfl) rfl #[.agg c] rfl (by (try simp only [List.map_toArray, List.map_cons, List.map_nil]); first | done | rfl | (simp only [List.length_drop, List.length_take]; rfl)) ?_; (with_reducible refine (HR.out ▸ impl_res c HCS.out a b H0.out H1.out _).mono ?_); rintro e w' ⟨rfl, hb⟩; have n0_ := Aside0.mk (below_step (by repeat (first | (with_reducible first | exact HB.out | apply below_alloc | apply pw_below_drewN | apply below_drew1) | exact HB.out)) hb); have m0_ := Aside0.mk (blk_below (by (with_reducible repeat (first | refine blk_drewN ?_ _ | refine blk_drew ?_ | refine blk_alloc ?_ _)); exact BK1.out) hb); clear HB; clear BK1; have HB := n0_; have BK1 := m0_; clear n0_ m0_; clear hb; refine ⟨_, rfl, ?_⟩))
  go_ret
  exact ⟨by first | rfl | (simp; done) | (simp [*]; done), by repeat (first | (with_reducible first | exact HB.out | apply below_alloc | apply pw_below_drewN | apply below_drew1) | exact HB.out)⟩
end Go.Proofs.Ytcclfndbglgbiaa.FFnExactValidMark
