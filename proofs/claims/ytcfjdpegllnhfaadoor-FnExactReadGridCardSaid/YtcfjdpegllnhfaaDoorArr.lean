import Derived.Test.YtcfjdpegllnhfaaDoorProg
import Derived.Below
import Derived.Deep.Draws
import Derived.Deep.AppendLies
import Derived.Maps.AppendAt
import Derived.OwnWalk
import Derived.Laws.BytesArg
import Derived.Laws.MakeOwn
import Derived.Laws.OwnMore
import Derived.Deep.OwnRows
import Derived.Tactics
import Derived.Lib.ConvBytes
import Derived.Laws.Slices
import Derived.WalkKit
import Derived.KernelRfl
import Derived.RowKit3
import Derived.Deep.LoopGhost
import Derived.Deep.QuietTactic
import Derived.BigQuiet
import Derived.WideLaws
import Derived.Deep.DeepCutAuto
import Derived.Deep.CutBlock
import Derived.Deep.RegionHeld3
import Derived.Laws.Rows
import Derived.Lib.AppendStr
import Derived.ArgAppend
import Derived.Laws.IdiomCopy
import Derived.OrdersHeld
import Derived.Laws.BitsLemmas
import Derived.RowKit
import Derived.Test.YtcfjdpegllnhfaaDoorWWords
import Derived.Test.YtcfjdpegllnhfaaDoorWLast
import Derived.Test.YtcfjdpegllnhfaaDoorWTab
import Derived.Test.YtcfjdpegllnhfaaDoorWFour
import Derived.Test.YtcfjdpegllnhfaaDoorWQPut
import Derived.Test.YtcfjdpegllnhfaaDoorWApart
import Derived.Test.YtcfjdpegllnhfaaDoorWArr
import Derived.Test.YtcfjdpegllnhfaaDoorWZeros
import Derived.Test.YtcfjdpegllnhfaaDoorWFoot
import Derived.Test.YtcfjdpegllnhfaaDoorWKept
import Derived.Test.YtcfjdpegllnhfaaDoorWShare
import Derived.Test.YtcfjdpegllnhfaaDoorWN
import Derived.Test.YtcfjdpegllnhfaaDoorWFootNe
import Derived.Test.YtcfjdpegllnhfaaDoorWAt
import Derived.Test.YtcfjdpegllnhfaaDoorWEqStruct
import Derived.Test.YtcfjdpegllnhfaaDoorWRepsOne
import Derived.Test.YtcfjdpegllnhfaaDoorWInv
import Derived.Test.YtcfjdpegllnhfaaDoorWInvWords
import Derived.Test.YtcfjdpegllnhfaaDoorWGuard
import Derived.Test.YtcfjdpegllnhfaaDoorWNEv
import Derived.Test.YtcfjdpegllnhfaaDoorWMore
import Derived.Deep.WholeRow
import Derived.Laws.CopyOwn
import Derived.Deep.LoopGhost
namespace Go.Proofs.YtcfjdpegllnhfaaDoor.Arr
open Go.RowKit Go.Proofs.YtcfjdpegllnhfaaDoorW.PrintWords Go.Proofs.YtcfjdpegllnhfaaDoorW.PrintLast Go.Proofs.YtcfjdpegllnhfaaDoorW.PrintMore
set_option linter.unusedVariables false
set_option linter.unusedSimpArgs false
theorem size_getElem? (c : Array Value) (i : Nat) (h : i < c.size) : ∃ v, c[i]? = some v := ⟨_, Array.getElem?_eq_getElem h⟩
theorem step_cur {c cur : Array Value} {i : Nat} {v : Value} (hs : cur.size = c.size) (hv : c[i]? = some v) (h : ∀ j, j < i → cur[j]? = c[j]?) :
    ∀ j, j < i + 1 → (cur.setIfInBounds i v)[j]? = c[j]? := by
  have hi := (Array.getElem?_eq_some_iff.1 hv).1
  intro j hj
  rw [Array.getElem?_setIfInBounds]
  by_cases e : i = j
  · subst e; rw [if_pos rfl, if_pos (by omega), hv]
  · rw [if_neg e]; exact h j (by omega)
theorem all_one {K : IntKind} {c : Array Value} {n : Nat} (hs : c.size = n) (h : ∀ j, j < n → ∃ x, c[j]? = some (.int K x)) : c.all (·.oneCell') = true := by
  rw [Array.all_eq_true_iff_forall_mem]
  intro v hv
  obtain ⟨j, hj, rfl⟩ := Array.mem_iff_getElem.1 hv
  obtain ⟨x, e⟩ := h j (by omega)
  rw [Array.getElem?_eq_getElem hj] at e
  rw [Option.some.inj e]; rfl
theorem last_cur {c cur : Array Value} {n : Nat} (hs : cur.size = n) (hc : c.size = n) (h : ∀ j, j < n → cur[j]? = c[j]?) : cur = c := by
  apply Array.ext_getElem?
  intro j
  by_cases hj : j < n
  · exact h j hj
  · rw [Array.getElem?_eq_none (by omega), Array.getElem?_eq_none (by omega)]
section
variable {P : Program} {ops : Array Oper} {rest : List Oper} {o : Oper} {a : Act} {Q : Exit → Act → World → Prop}
/-- A whole array is read. -/
theorem ev_load {W : World} (hgd : o.guard = none) {t ty : TypeId} {p : Operand} (ho : o.op = .load ty p) {g : Nat} {cs : Array Value} {n : Nat} {e : TypeId} (hp : a.eval p = .pointer (some ⟨g, 0, none⟩))
    (hr : W.heap[g]? = some (.cells cs t (0, 0))) (hu : P.underlying ty = some (.array n e)) (hi : (P.info? ty).map (·.size) = some cs.size) (h : wpList P ops Q rest (a.put o.dst (.agg cs)) W) : wpList P ops Q (o :: rest) a W := by
  refine Kd.event_run hgd (v := .agg cs) (w1 := W) ?_ h
  rw [execOp, ho]
  simp only [Instr.loadAt, Instr.sureAddr, hp, Sem.run_bind, Sem.run_pure, Result.andThen]
  rw [run_loadVar_row W g t ty cs (0, 0) _ hr hu rfl hi]
theorem ev_store {W : World} (hgd : o.guard = none) {t ty : TypeId} {p : Tmp} {x : Operand} (ho : o.op = .store ty (.tmp p) x) (hN : o.dst = none) {g : Nat} {cs cs' : Array Value} (hp : a.eval (.tmp p) = .pointer (some ⟨g, 0, none⟩)) (hx : a.eval x = .agg cs')
    (hr : W.heap[g]? = some (.cells cs t (0, 0))) (hi : (P.info? ty).map (·.size) = some cs'.size) (hs : cs.size = cs'.size) (h1 : cs'.all (·.oneCell') = true) (h : wpList P ops Q rest a (W.setRow g cs')) : wpList P ops Q (o :: rest) a W := by
  refine store_event hgd ho hN (w1 := W.setRow g cs') ?_ (fun w' e => by subst e; exact h)
  rw [execOp, ho]
  simp only [Instr.storeAt, Instr.sureAddr, hp, hx, Sem.run_bind, Sem.run_pure, Result.andThen]
  rw [run_storeVar_row W g t ty cs cs' hr hi hs h1]
end
theorem encs_size {K : IntKind} {l : List Int} {n : Nat} (h : l.length = n) : (encs (Value.int K) l).toArray.size = n := by simp [encs, h]
theorem encs_all {K : IntKind} {l : List Int} {n : Nat} (h : l.length = n) : ∀ j, j < n → ∃ x, (encs (Value.int K) l).toArray[j]? = some (.int K x) := by
  intro j hj
  refine ⟨l[j]'(by omega), ?_⟩
  simp [encs, List.getElem?_eq_getElem (show j < l.length by omega)]
structure St (w W : World) (t1 t2 : TypeId) (n : Nat) (c cur : Array Value) (i : Nat) : Prop where
  row : W.heap[w.heap.size]? = some (.cells c t1 (0, 0))
  res : ∃ z, z.size = n ∧ W.heap[w.heap.size + 1]? = some (.cells z t2 (0, 0))
  out : W.heap[w.heap.size + 1 + 1]? = some (.cells cur t2 (0, 0))
  size : cur.size = n
  done : ∀ j, j < i → cur[j]? = c[j]?
  bel : Below w.heap.size w W
theorem St.start (w : World) (t1 t2 : TypeId) (n : Nat) (c z : Array Value) (hz : z.size = n) : St w (((w.alloc (.cells c t1)).alloc (.cells z t2)).alloc (.cells z t2)) t1 t2 n c z 0 :=
  ⟨blk_alloc (blk_alloc (blk_new w _) _) _, ⟨z, hz, blk_alloc (by simpa using blk_new (w.alloc (.cells c t1)) (.cells z t2)) _⟩,
    by simpa using blk_new ((w.alloc (.cells c t1)).alloc (.cells z t2)) (.cells z t2), hz, fun j hj => absurd hj (by omega),
    below_alloc (below_alloc (below_alloc (Below.refl _ _) _) _) _⟩
theorem St.next {w W : World} {t1 t2 : TypeId} {n : Nat} {c cur : Array Value} {i : Nat} {v : Value} (h : St w W t1 t2 n c cur i) (hc : c.size = n) (hv : c[i]? = some v) :
    St w (W.setCell ⟨w.heap.size + 1 + 1, i, none⟩ v) t1 t2 n c (cur.setIfInBounds i v) (i + 1) := by
  obtain ⟨h1, ⟨z, hz, h2⟩, h3, h4, h5, h6⟩ := h
  exact ⟨blk_far h1 (by simp; omega) _, ⟨z, hz, blk_far h2 (by simp) _⟩, blk_set h3 _ _, by rw [Array.size_setIfInBounds]; exact h4, step_cur (by omega) hv h5, below_set h6 (by omega)⟩

set_option maxHeartbeats 4000000 in
set_option maxRecDepth 100000 in
theorem toGrid (c : Array Value) (hcs : c.size = 64) (hc1 : ∀ j, j < 64 → ∃ x, c[j]? = some (.int .u64 x)) (w : World) :
    Calls Tryd.prog 21 #[.agg c] w fun e w' => e = .returned (.agg c) ∧ Below w.heap.size w w' := by
  have HC := Aside0.mk hc1
  clear hc1
  have HCS := Aside0.mk hcs
  clear hcs
  go_enter Tryd.func21, Tryd.ntmps21
  go_wp2
  go_loopg [4] 64 (fun g s4 wx => ∃ (i : Nat) (cur : Array Value), i + g = 64 ∧ s4 = .int .i64 i ∧ St w wx 38 40 64 c cur i)
  case atStart => exact ⟨0, _, rfl, rfl, St.start w 38 40 64 c _ rfl⟩
  case round =>
    obtain ⟨i, cur, hig, rfl, hst⟩ := hrel
    cases gk with
    | zero =>
      obtain rfl : i = 64 := by omega
      obtain rfl := last_cur hst.size HCS.out hst.done
      have HST := Aside0.mk hst
      clear hst
      go_wp2_with (first | ((with_reducible refine gate_dst (N := 14) rfl ?_); refine ev_load rfl rfl rfl HST.out.out Tryd.underlying40 (by rw [HST.out.size]; kernel_rfl) ?_) | ((with_reducible refine gate_store (t := 40) (p := 2) rfl ?_); refine ev_store rfl rfl rfl rfl rfl HST.out.res.choose_spec.2 (by rw [HST.out.size]; kernel_rfl) (by rw [HST.out.size]; exact HST.out.res.choose_spec.1) (all_one HST.out.size HC.out) ?_))
      refine bodyPost_ret (results_cell_row rfl _ _ (w.heap.size + 1) 40 cur (0, 0) _ rfl (setRow_heap _ _ _ _ _ _ HST.out.res.choose_spec.2) Tryd.underlying40 rfl (by rw [HST.out.size]; kernel_rfl)) rfl ?_
      exact ⟨rfl, below_setRow HST.out.bel (by omega) _⟩
    | succ g =>
      have hi : i < 64 := by omega
      have hiz : (i : Int) < 64 := by omega
      obtain ⟨x, hx⟩ := HC.out i hi
      obtain ⟨o, ho⟩ := size_getElem? cur i (by rw [hst.size]; exact hi)
      have hcA : wr.cell? ⟨w.heap.size, i, none⟩ = some (.int .u64 x) := by rw [blk_cell hst.row, hx]
      have hfA := blk_frozen hst.row i
      have hcB : wr.cell? ⟨w.heap.size + 1 + 1, i, none⟩ = some o := by rw [blk_cell hst.out, ho]
      have hfB := blk_frozen hst.out i
      have HX := Aside0.mk hx
      have HST := Aside0.mk hst
      clear hst hx ho
      go_wp2
      go_roundg g
      case measure => omega
      case rel => exact ⟨i + 1, _, by omega, by first | rfl | simp, HST.out.next HCS.out HX.out⟩

end Go.Proofs.YtcfjdpegllnhfaaDoor.Arr
