/- laws.eqGrid and the law FnExactReadGrid walked: the law's function answers true. Condition: the world holds the library's variables (WF, TZ). -/
import Derived.Test.YtcfjdpegllnhfaaDoorRGS
namespace Go.Proofs.YtcfjdpegllnhfaaDoor.RGL
open Go.RowKit Go.Proofs.YtcfjdpegllnhfaaDoorW.PrintWords Go.Proofs.YtcfjdpegllnhfaaDoorW.PrintLast Go.Proofs.YtcfjdpegllnhfaaDoorW.PrintMore Go.Proofs.YtcfjdpegllnhfaaDoor.Arr Go.Proofs.YtcfjdpegllnhfaaDoor.UX Go.Proofs.YtcfjdpegllnhfaaDoor.GT Go.Proofs.YtcfjdpegllnhfaaDoor.RGP Go.Proofs.YtcfjdpegllnhfaaDoor.RGI Go.Proofs.YtcfjdpegllnhfaaDoor.RGS
set_option linter.unusedVariables false
set_option linter.unusedSimpArgs false
set_option maxHeartbeats 8000000 in
set_option maxRecDepth 100000 in
theorem eqGrid (c : Array Value) (hcs : c.size = 64) (hc1 : ∀ j, j < 64 → ∃ x, c[j]? = some (.int .u64 x)) (w : World) : Calls Tryd.prog 32 #[.agg c, .agg c] w fun e w' => e = .returned (.bool true) ∧ Below w.heap.size w w' := by
  have HC := Aside0.mk hc1
  have HCS := Aside0.mk hcs
  have HB := Aside0.mk (Below.refl w.heap.size w)
  clear hcs hc1
  go_enter Tryd.func32, Tryd.ntmps32
  go_wp2_with (first | ((with_reducible refine gate_dst (N := 2) rfl ?_); refine box_event ?hg (N := 2) ?hd (cs := c) (t := 40) ?hr ?_; (case hd => rfl); (case hg => rfl); (case hr => first | (go_simp; done) | (go_simp; rfl) | rfl); intro g2 hg w2 hbox hb; have n0_ := Aside0.mk (below_step (by repeat (first | (with_reducible first | exact HB.out | apply below_alloc | apply pw_below_drewN | apply below_drew1) | exact HB.out)) hb); have n1_ := Aside0.mk hbox; clear HB; have HB := n0_; have BK2 := n1_; clear n0_ n1_; clear hb hbox hg) | ((with_reducible refine gate_dst (N := 3) rfl ?_); refine box_event ?hg (N := 3) ?hd (cs := c) (t := 40) ?hr ?_; (case hd => rfl); (case hg => rfl); (case hr => first | (go_simp; done) | (go_simp; rfl) | rfl); intro g3 hg w3 hbox hb; have n0_ := Aside0.mk (below_step (by repeat (first | (with_reducible first | exact HB.out | apply below_alloc | apply pw_below_drewN | apply below_drew1) | exact HB.out)) hb); have n1_ := Aside0.mk hbox; have m0_ := Aside0.mk (blk_below BK2.out hb); clear BK2; have BK2 := m0_; clear m0_; clear HB; have HB := n0_; have BK3 := n1_; clear n0_ n1_; clear hb hbox hg))
  go_loopg [5] 64 (fun kq v5 w' => ∃ i : Nat, v5 = .int .i64 (i : Int) ∧ Aside0 (i + kq = 64) ∧ Aside0 (w'.heap[g2]? = some (.cells c 40 (0, 0))) ∧ Aside0 (w'.heap[g3]? = some (.cells c 40 (0, 0))) ∧ Aside0 (Below w.heap.size w w'))
  case atStart => exact ⟨0, rfl, ⟨by omega⟩, BK2, BK3, HB⟩
  case round =>
    clear BK2 BK3 HB
    obtain ⟨i, rfl, HI, BK2, BK3, HB⟩ := hrel
    by_cases c2 : i < 64
    · cases gk with
      | zero => exact absurd HI.out (by omega)
      | succ k1 =>
        have c2b0 : decide ((i : Int) < 64) = true := decide_eq_true (by omega)
        have c2b1 : decide (i < 64) = true := decide_eq_true c2
        have q1 : ((i : Int) < 64) = True := eq_true (by omega)
        obtain ⟨x, hx⟩ := HC.out i c2
        have HX := Aside0.mk hx
        have HW1 := Aside0.mk (show wrap64 ((i : Int) + 1) = ((i + 1 : Nat) : Int) by unfold wrap64; omega)
        clear hx c2
        go_wp2
        have B2_ := Aside0.mk (blk_drew BK2.out)
        have B3_ := Aside0.mk (blk_drew BK3.out)
        clear BK2 BK3
        have BK2 := B2_
        have BK3 := B3_
        clear B2_ B3_
        have HB_ := Aside0.mk (below_drew1 HB.out)
        clear HB
        have HB := HB_
        clear HB_
        refine start_ (n := 7) (S := fun w' => w'.cell? ⟨g2, i, none⟩ = some (.int .u64 x) ∧ w'.cell? ⟨g3, i, none⟩ = some (.int .u64 x)) (ds := []) #[false, false, false, false, false, false, false] (by kernel_rfl) rfl rfl ⟨(blk_cell BK2.out i).trans HX.out, (blk_cell BK3.out i).trans HX.out⟩ (fun hHeld => ?_)
        generalize wr.drew = w4 at BK2 BK3 HB hHeld ⊢
        refine pure_ (i := 0) (N := some 10) (v := ?_) (a' := ?_) #[true, false, false, false, false, false, false] rfl rfl (by kernel_rfl) (fun _ _ _ h => h) (Or.inl ⟨by rfl, ?_⟩) ?_ ?_
        rotate_left
        · intro w'
          go_simp
          with_reducible rfl
        rotate_left
        · simp only [Act.put, List.setIfInBounds_toArray, List.set_cons_zero, List.set_cons_succ, i64_w, i32_w]
          rfl
        refine pure_ (i := 1) (N := some 11) (v := ?_) (a' := ?_) #[true, true, false, false, false, false, false] rfl rfl (by kernel_rfl) (fun _ _ _ h => h) (Or.inl ⟨by rfl, ?_⟩) ?_ ?_
        rotate_left
        · intro w'
          go_simp
          with_reducible rfl
        rotate_left
        · simp only [Act.put, List.setIfInBounds_toArray, List.set_cons_zero, List.set_cons_succ, i64_w, i32_w]
          rfl
        refine take_ (i := 2) (N := some 12) (v := ?_) (a' := ?_) #[true, true, true, false, false, false, false] rfl rfl (by kernel_rfl) (fun _ _ _ h => h) (Or.inl ⟨by rfl, ?_⟩) hHeld ?_ ?_
        rotate_left
        · rintro w' ⟨s0, s1⟩
          go_simp
          with_reducible rfl
        rotate_left
        · simp only [Act.put, List.setIfInBounds_toArray, List.set_cons_zero, List.set_cons_succ, i64_w, i32_w]
          rfl
        refine pure_ (i := 3) (N := some 13) (v := ?_) (a' := ?_) #[true, true, true, true, false, false, false] rfl rfl (by kernel_rfl) (fun _ _ _ h => h) (Or.inl ⟨by rfl, ?_⟩) ?_ ?_
        rotate_left
        · intro w'
          go_simp
          with_reducible rfl
        rotate_left
        · simp only [Act.put, List.setIfInBounds_toArray, List.set_cons_zero, List.set_cons_succ, i64_w, i32_w]
          rfl
        refine pure_ (i := 4) (N := some 14) (v := ?_) (a' := ?_) #[true, true, true, true, true, false, false] rfl rfl (by kernel_rfl) (fun _ _ _ h => h) (Or.inl ⟨by rfl, ?_⟩) ?_ ?_
        rotate_left
        · intro w'
          go_simp
          with_reducible rfl
        rotate_left
        · simp only [Act.put, List.setIfInBounds_toArray, List.set_cons_zero, List.set_cons_succ, i64_w, i32_w]
          rfl
        refine take_ (i := 5) (N := some 15) (v := ?_) (a' := ?_) #[true, true, true, true, true, true, false] rfl rfl (by kernel_rfl) (fun _ _ _ h => h) (Or.inl ⟨by rfl, ?_⟩) hHeld ?_ ?_
        rotate_left
        · rintro w' ⟨s0, s1⟩
          go_simp
          with_reducible rfl
        rotate_left
        · simp only [Act.put, List.setIfInBounds_toArray, List.set_cons_zero, List.set_cons_succ, i64_w, i32_w]
          rfl
        refine pure_ (i := 6) (N := some 16) (v := ?_) (a' := ?_) #[true, true, true, true, true, true, true] rfl rfl (by kernel_rfl) (fun _ _ _ h => h) (Or.inl ⟨by rfl, ?_⟩) ?_ ?_
        rotate_left
        · intro w'
          go_simp
          with_reducible rfl
        rotate_left
        · simp only [Act.put, List.setIfInBounds_toArray, List.set_cons_zero, List.set_cons_succ, i64_w, i32_w]
          rfl
        refine done_ (by kernel_rfl) ?_
        go_wp2
        go_roundg k1
        case measure => omega
        case rel => exact ⟨i + 1, by rw [← HW1.out], ⟨by have := HI.out; omega⟩, BK2, BK3, HB⟩
    · have c2b0 : decide ((i : Int) < 64) = false := decide_eq_false (by omega)
      have c2b1 : decide (i < 64) = false := decide_eq_false c2
      clear c2
      go_wp2
      go_ret
      exact ⟨rfl, HB.out⟩
theorem gsize {t : List UInt8} {G : List Int} {c : Int} (hs : (Acc t G ∧ Grid G ∧ c = 0) ∨ ((¬ ∃ R, Acc t R) ∧ G = Z64 ∧ c = 5)) : (arr G).size = 64 := by
  rcases hs with ⟨_, h, _⟩ | ⟨_, rfl, _⟩
  · exact encs_size h.1
  · exact encs_size List.length_replicate
theorem gall {t : List UInt8} {G : List Int} {c : Int} (hs : (Acc t G ∧ Grid G ∧ c = 0) ∨ ((¬ ∃ R, Acc t R) ∧ G = Z64 ∧ c = 5)) : ∀ j, j < 64 → ∃ x, (arr G)[j]? = some (.int .u64 x) := by
  rcases hs with ⟨_, h, _⟩ | ⟨_, rfl, _⟩
  · exact encs_all h.1
  · exact encs_all List.length_replicate
/-- Model and program answer alike. -/
theorem same {t : List UInt8} {G G' F : List Int} {c c' : Int} (hF : F = (sp 10 t).foldl istep Z64) (hg : Grid F) (hs : (Acc t G ∧ Grid G ∧ c = 0) ∨ ((¬ ∃ R, Acc t R) ∧ G = Z64 ∧ c = 5)) (hi : (gpre F 64 = t ∧ G' = F ∧ c' = 0) ∨ (gpre F 64 ≠ t ∧ G' = Z64 ∧ c' = 5)) : Grid G ∧ G' = G ∧ c' = c := by
  rcases hs with ⟨ha, h2, rfl⟩ | ⟨ha, rfl, rfl⟩
  · obtain ⟨e1, e2, e3⟩ := acc_impl t G ha
    rw [← hF] at e1
    subst e1
    rcases hi with ⟨h1, rfl, rfl⟩ | ⟨h1, _, _⟩
    · exact ⟨h2, rfl, rfl⟩
    · exact absurd e2 h1
  · rcases hi with ⟨h1, _, _⟩ | ⟨_, rfl, rfl⟩
    · refine absurd ⟨F, ?_⟩ ha
      have := impl_acc F hg
      rw [h1] at this
      exact this
    · exact ⟨grid_z, rfl, rfl⟩
set_option maxHeartbeats 8000000 in
set_option maxRecDepth 100000 in
theorem law (t : ByteArray) (w : World) (hw : WF w) (htz : TZ w) : Calls Tryd.prog 9 #[.string t] w fun e w' => e = .returned (.bool true) ∧ Below w.heap.size w w' := by
  have HB := Aside0.mk (Below.refl w.heap.size w)
  by_cases ht : t.size ≤ 1048576
  · have HW := Aside0.mk hw
    have HTZ := Aside0.mk htz
    have HT := Aside0.mk ht
    have c0 : decide ((t.size : Int) > 1048576) = false := decide_eq_false (by omega)
    have c1 : (1048576 < (t.size : Int)) = False := eq_false (by omega)
    have c2 : (1048576 < t.size) = False := eq_false (by omega)
    clear hw htz ht
    go_enter Tryd.func9, Tryd.ntmps9
    go_wp2_with (first | (go_at_call 30; refine (specReadGrid t HT.out _).mono ?_; rintro e w1 ⟨G, n, rfl, hb, hs⟩; have HB1 := Aside0.mk (below_step HB.out hb); have HS := Aside0.mk hs; clear HB hb hs) | ((with_reducible refine gate_store (t := 40) (p := 3) rfl ?_); refine ev_store rfl rfl rfl rfl (cs' := arr G) rfl (blk_new w1 _) (by rw [gsize HS.out]; kernel_rfl) (by rw [gsize HS.out]; rfl) (all_one (gsize HS.out) (gall HS.out)) ?_; rw [World.setRow_alloc_new]) | (go_at_call 31; refine (implReadGrid t HT.out _ (wf_on HW.out (below_alloc HB1.out _)) (cell_on (below_alloc HB1.out _) HTZ.out)).mono ?_; rintro e w2 ⟨G', n', rfl, hb, hg, hi⟩; obtain ⟨hgr, rfl, rfl⟩ := same rfl hg HS.out hi; have HG := Aside0.mk hgr; have HB2 := Aside0.mk (below_step (below_alloc HB1.out _) hb); have R3 := Aside0.mk (blk_below (blk_new w1 _) hb); clear hb hg hi hgr) | ((with_reducible refine gate_store (t := 40) (p := 5) rfl ?_); refine ev_store rfl rfl rfl rfl (cs' := arr _) rfl (blk_new w2 _) (by rw [encs_size HG.out.1]; kernel_rfl) (by rw [encs_size HG.out.1]; rfl) (all_one (encs_size HG.out.1) (encs_all HG.out.1)) ?_; rw [World.setRow_alloc_new]) | ((with_reducible refine gate_dst (N := 20) rfl ?_); refine ev_load rfl rfl rfl (blk_new w2 _) Tryd.underlying40 (by rw [encs_size HG.out.1]; kernel_rfl) ?_) | ((with_reducible refine gate_dst (N := 21) rfl ?_); refine ev_load rfl rfl rfl (blk_alloc R3.out _) Tryd.underlying40 (by rw [encs_size HG.out.1]; kernel_rfl) ?_) | (go_at_call 32; refine (eqGrid _ (encs_size HG.out.1) (encs_all HG.out.1) _).mono ?_; rintro e w3 ⟨rfl, hb⟩; have HB3 := Aside0.mk (below_step (below_alloc HB2.out _) hb); clear hb))
    go_ret
    exact ⟨rfl, HB3.out⟩
  · have c0 : decide ((t.size : Int) > 1048576) = true := decide_eq_true (by omega)
    have c1 : (1048576 < (t.size : Int)) = True := eq_true (by omega)
    have c2 : (1048576 < t.size) = True := eq_true (by omega)
    clear hw htz ht
    go_enter Tryd.func9, Tryd.ntmps9
    go_wp2
    go_ret
    exact ⟨rfl, HB.out⟩
end Go.Proofs.YtcfjdpegllnhfaaDoor.RGL
