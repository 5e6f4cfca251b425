/- The statement FnExactCodeNameSaid of the door seat. -/
import Derived.Test.YtcfjdpegllnhfaaDoorRows
import Derived.Test.YtcfjdpegllnhfaaDoorCode
import Derived.ProofKit
import Derived.LaidMore
import Derived.OpenShut
import Derived.Stop.Joined
namespace Go.Proofs.YtcfjdpegllnhfaaDoor.CodeN
open Go.ChangeShapes Go.WideShapes Go.ChangeAt Go.RowKit
theorem own : ownKnob Tryd.prog.godebug = none := by kernel_rfl
theorem gC : Tryd.prog.globalNamed "loop.example/g01264/impl.codeNames" = some 0 := by kernel_rfl
theorem tC : (Tryd.prog.globals[0]?).map (·.type) = some 56 := by kernel_rfl
abbrev L {H : Type} : List (String × DataW H) := [("loop.example/g01264/impl.codeNames", Rows.laid_loop_example_g01264_impl_codeNames)]
def NM : List (List UInt8) := [[111, 107], [105, 110, 118, 97, 108, 105, 100], [114, 97, 110, 103, 101], [108, 105, 109, 105, 116], [115, 116, 97, 116, 101], [115, 121, 110, 116, 97, 120], [110, 111, 116, 102, 111, 117, 110, 100], [98, 117, 100, 103, 101, 116], [112, 114, 111, 111, 102]]
theorem laid_NM : (Rows.laid_loop_example_g01264_impl_codeNames : DataW Unit) = .agg (NM.map fun s => .lit (.string s)) := rfl
theorem of_laid {W : World} (h : laidMetH Tryd.prog L W) : ∀ i (s : List UInt8), NM[i]? = some s → W.cell? ⟨0, i, none⟩ = some (.string ⟨s.toArray⟩) := by
  rw [MakeChecks.laidMetH_plain _ _ _ (by kernel_rfl)] at h
  obtain ⟨ps, ⟨g0, t0, cs0, f0, p0, q0, hg0, ht0, hv0, hd0, _⟩, _⟩ := h
  obtain rfl := Option.some.inj (gC.symm.trans hg0)
  obtain rfl := Option.some.inj (tC.symm.trans ht0)
  obtain ⟨xs, m1, rfl, hx1, hlen, hn3, hel⟩ := DataW.trod_array Tryd.underlying56 hd0
  have c9 : Tryd.prog.cellsOf 9 = 1 := by kernel_rfl
  rw [c9] at hel
  intro i s hs
  have hi : i < 9 := by have := (List.getElem?_eq_some_iff.1 hs).1; simpa [NM] using this
  have e := hel i hi
  rw [laid_NM] at hx1
  have hx2 : NM.map (fun s => (.lit (.string s) : DataW Unit)) = xs.map (fun x => x.1) := by
    have := congrArg Prod.fst hx1
    exact DataW.agg.inj this
  have hxi : i < xs.length := by omega
  rw [List.getElem?_eq_getElem hxi] at e
  obtain ⟨s', h1, h2, _⟩ := DataW.trod_string Tryd.underlying9 e
  have h3 : (NM.map (fun s => (.lit (.string s) : DataW Unit)))[i]? = (xs.map (fun x => x.1))[i]? := by rw [hx2]
  rw [List.getElem?_map, List.getElem?_map, hs, List.getElem?_eq_getElem hxi, h2] at h3
  have h4 : s = s'.data.toList := by simpa using h3
  have h5 := World.var?_cell hg0 hv0 i
  rw [h5, h4]
  rw [Nat.mul_one] at h1
  have h6 : (cs0.toList.drop i)[0]? = some (.string s') := by
    have := congrArg (fun l => l[0]?) h1
    simpa using this
  rw [List.getElem?_drop] at h6
  simpa using h6
theorem door_met (os : Os) (args : Array Value) : laidMetH Tryd.prog L ((World.doorLaid Tryd.prog 400 os).forCall (fun _ _ => 0) ⟨#[], args, []⟩).memory :=
  laidMetH_of_parts3 (fuel := 8) (laidMet_of_run' 8 (by kernel_rfl) (by kernel_rfl)) (by kernel_rfl) (by kernel_rfl)
theorem var?_below {P : Program} {B g : Nat} {W W' : World} {n : String} {cs : Array Value} (h : Below B W W') (hg : P.globalNamed n = some g) (hgB : g < B) (hv : W.var? P n = some cs) : W'.var? P n = some cs := by
  unfold World.var? at hv ⊢
  simp only [hg, Option.bind_some] at hv ⊢
  rw [h.block g hgB]
  exact hv
theorem laidOut : laidOutB Tryd.prog = true := by kernel_rfl
set_option maxRecDepth 100000 in
theorem lifted (os : Os) (started : os.Started) (H : Type) (enc : TypeId × Value → H) :
    ReturnsInHanded {} Tryd.checked os 3 .any (fun w args => (Rows.fnExactCodeNameSpec.pre enc Tryd.prog Tryd.f3 [] false w args ∧ laidMetH Tryd.prog L w) ∧ sizedMet enc Tryd.prog Tryd.f3 (OpenSpec.ofChange Rows.fnExactCodeNameSpec) false w args)
      (Rows.fnExactCodeNameSpec.post enc Tryd.prog Tryd.f3 false true false false) := by
  refine returnsInHanded_of_change_and (C := Tryd.checked) (X := fun w _ => laidMetH Tryd.prog L w) (fun _ _ _ hh h => h.of_heap hh) own started (by kernel_rfl) Tryd.func3
    (ChangeSpec.witness_shaped (enc := enc) (C := Tryd.checked) (os := os) (X := fun w _ => laidMetH Tryd.prog L w) false (World.doorLaid Tryd.prog 400 os) #[.int .i64 0] 8 rfl (World.shaped_of_RefB (by kernel_rfl) (by kernel_rfl)) (by kernel_rfl) (by kernel_rfl) (by kernel_rfl) (door_met os _)) ?_
  intro W base args ds gs before hval0 hW _ _ hL _
  have hval : ∀ (j : Nat) t v, Tryd.f3.params[j]? = some t → args[j]? = some v → Value.okWide Tryd.prog W .any base t v := hval0
  have hW' := hW
  obtain ⟨p, q, hA0, hV, rfl, hfz, hnd⟩ := hW
  have hA : DataW.TrodAll enc Tryd.prog W 0 (fun _ => true) true Tryd.f3.params.toList args.toList ds p := hA0
  rw [Tryd.params3] at hA hval
  obtain ⟨v0, d0, rfl, rfl, h0⟩ := trodAll_one hA
  obtain ⟨g, t, cs, fuel, d, p', rfl, hg, ht, hvar, hd, rfl⟩ := trodVars_one hV
  obtain rfl := Option.some.inj (gC.symm.trans hg)
  obtain rfl := Option.some.inj (tC.symm.trans ht)
  obtain ⟨a, rfl, rfl, rfl, wa⟩ := open_int Tryd.underlying2 (hval 0 2 v0 rfl rfl) h0
  have c := of_laid hL
  have h0lt : 0 < W.heap.size := World.block_lt_of_cell? W _ (c 0 _ rfl)
  have lt : ∀ x ∈ p', x.block < W.heap.size := DataW.trod_lt fuel _ _ _ hd
  clear hA0 hval0
  refine (code_law a W (c 0 _ rfl) (c 1 _ rfl) (c 2 _ rfl) (c 3 _ rfl) (c 4 _ rfl) (c 5 _ rfl) (c 6 _ rfl) (c 7 _ rfl) (c 8 _ rfl)).mono fun e W' ⟨he, bel⟩ => ?_
  subst he
  have hd3 : DataW.trod enc Tryd.prog W 0 (fun _ => true) true fuel 56 (Value.agg cs).cells.toList = some (d, p') := hd
  obtain ⟨m', hd'⟩ := Below.trod (v := .agg cs) (t := 56) laidOut (by kernel_rfl) (of_decide_eq_true (by kernel_rfl)) ⟨fuel, hd3⟩ bel lt
  have hv' := trodVars_mk1 (enc := enc) (spare := fun b => decide (b < W.heap.size)) hg ht (var?_below bel hg h0lt hvar) (show DataW.trod enc Tryd.prog W' 0 (fun b => decide (b < W.heap.size)) true m' 56 cs.toList = some (d, p') from hd')
  exact ⟨_, rfl, _, _, _, [], _, _, hW', trodAll_mk1 (shut_bool Tryd.underlying4 _), trodAll_mk1 (shut_int Tryd.underlying2 wa), hv', bel.frame _, fun h => by cases h⟩
theorem said : Rows.FnExactCodeNameSaid :=
  OpenClaim.holds_of_wide 3 Tryd.f3 rfl rfl rfl rfl rfl rfl rfl ⟨rfl, rfl, rfl, rfl, rfl⟩ rfl rfl rfl rfl rfl (by kernel_rfl) Tryd.func3 (by kernel_rfl)
    (of_decide_eq_true (by kernel_rfl)) (by unfold Func.isWrapper; first | (rw [if_pos (by decide +kernel)]; kernel_rfl) | (rw [if_neg (by decide +kernel)]; exact ⟨rfl, rfl⟩))
    (fun os started H enc _ => lifted os started H enc)
#print axioms said
end Go.Proofs.YtcfjdpegllnhfaaDoor.CodeN
