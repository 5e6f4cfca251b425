-- Written by fvprint.py, a program of this session over the kit's print. Not trusted: Lean checks it.
import Derived.Test.YtobngbphmhggkaaFFnShapesx0
import Derived.Test.YtobngbphmhggkaaFFnShapesx1
import Derived.Test.YtobngbphmhggkaaFFnShapesx2
namespace Go.Proofs.Ytobngbphmhggkaa.FFnShapes
open Go.RowKit Go.Proofs.YtobngbphmhggkaaW.PrintWords Go.Proofs.YtobngbphmhggkaaW.PrintLast Go.Proofs.YtobngbphmhggkaaW.PrintMore
attribute [local go_sem] max2_int min2_int max_two min_two max_three min_three max_four min_four   -- for this text's walks alone
set_option linter.unusedVariables false
set_option linter.unusedSimpArgs false

/-! ### laws_FnShapes: function 14 -/
mutual
def laws_FnShapes.l0 : Nat → Int → Int → Int → Int → Int → Int → Option (Bool)
  | 0, _, _, _, _, _, _ => none
  | k + 1, x5, x6, x7, x8, x9, x10 => if x10 ≤ x6 then ((impl_ShapeOf.f x5 x10 x6).bind fun bt141 => ((spec_ShapeOf.f x5 x10 x6).bind fun bt144 => ((impl_LiftIn.f x7 x8 x5 x10 x6).bind fun bt147 => ((spec_LiftIn.f x7 x8 x5 x10 x6).bind fun bt149 => ((impl_LiftIn.f x8 x7 x5 (wrap64 (x6 - x10)) x6).bind fun bt151 => (if bt141.2.2 = bt144.2.2 then (if bt141.2.2 = 0 then (if bt141.1 = bt144.1 then (if bt141.2.1 = bt144.2.1 then (if bt144.2.1 < 1 then (laws_FnShapes.j1 k x5 x6 x7 x8 x9 x10 bt149.1 true) else (if bt144.1 < 0 then (laws_FnShapes.j1 k x5 x6 x7 x8 x9 x10 bt149.1 true) else (if bt144.1 > bt144.2.1 then (laws_FnShapes.j1 k x5 x6 x7 x8 x9 x10 bt149.1 true) else (if bt147.2 = bt149.2 then (if bt147.2 = 0 then (if bt147.1 = bt149.1 then (if bt151.2 = 0 then (laws_FnShapes.j1 k x5 x6 x7 x8 x9 x10 bt149.1 (bt151.1 != bt149.1)) else (laws_FnShapes.j1 k x5 x6 x7 x8 x9 x10 bt149.1 true)) else (laws_FnShapes.j1 k x5 x6 x7 x8 x9 x10 bt149.1 true)) else (laws_FnShapes.j1 k x5 x6 x7 x8 x9 x10 bt149.1 true)) else (laws_FnShapes.j1 k x5 x6 x7 x8 x9 x10 bt149.1 true))))) else (laws_FnShapes.j1 k x5 x6 x7 x8 x9 x10 bt149.1 true)) else (laws_FnShapes.j1 k x5 x6 x7 x8 x9 x10 bt149.1 true)) else (laws_FnShapes.j1 k x5 x6 x7 x8 x9 x10 bt149.1 true)) else (laws_FnShapes.j1 k x5 x6 x7 x8 x9 x10 bt149.1 true))))))) else ((impl_ShapeOf.f x5 (wrap64 (x6 + 1)) x6).bind fun bt138 => (some (bt138.2.2 == 2)))
def laws_FnShapes.j1 : Nat → Int → Int → Int → Int → Int → Int → Int → Bool → Option (Bool)
  | 0, _, _, _, _, _, _, _, _ => none
  | k + 1, x5, x6, x7, x8, x9, x10, x19, x141 => if x141 = true then (some false) else (if x19 < (mn x7 x8) then (some false) else (if x19 > (mx x7 x8) then (some false) else (if x10 = 0 then (if x19 = x7 then (if x10 = x6 then (if x19 = x8 then (if x7 ≤ x8 then (if x19 < x9 then (some false) else (if x7 ≥ x8 then (if x19 > x9 then (some false) else (laws_FnShapes.l0 k x5 x6 x7 x8 x19 (wrap64 (x10 + 1)))) else (laws_FnShapes.l0 k x5 x6 x7 x8 x19 (wrap64 (x10 + 1))))) else (if x7 ≥ x8 then (if x19 > x9 then (some false) else (laws_FnShapes.l0 k x5 x6 x7 x8 x19 (wrap64 (x10 + 1)))) else (laws_FnShapes.l0 k x5 x6 x7 x8 x19 (wrap64 (x10 + 1))))) else (some false)) else (if x7 ≤ x8 then (if x19 < x9 then (some false) else (if x7 ≥ x8 then (if x19 > x9 then (some false) else (laws_FnShapes.l0 k x5 x6 x7 x8 x19 (wrap64 (x10 + 1)))) else (laws_FnShapes.l0 k x5 x6 x7 x8 x19 (wrap64 (x10 + 1))))) else (if x7 ≥ x8 then (if x19 > x9 then (some false) else (laws_FnShapes.l0 k x5 x6 x7 x8 x19 (wrap64 (x10 + 1)))) else (laws_FnShapes.l0 k x5 x6 x7 x8 x19 (wrap64 (x10 + 1)))))) else (some false)) else (if x10 = x6 then (if x19 = x8 then (if x7 ≤ x8 then (if x19 < x9 then (some false) else (if x7 ≥ x8 then (if x19 > x9 then (some false) else (laws_FnShapes.l0 k x5 x6 x7 x8 x19 (wrap64 (x10 + 1)))) else (laws_FnShapes.l0 k x5 x6 x7 x8 x19 (wrap64 (x10 + 1))))) else (if x7 ≥ x8 then (if x19 > x9 then (some false) else (laws_FnShapes.l0 k x5 x6 x7 x8 x19 (wrap64 (x10 + 1)))) else (laws_FnShapes.l0 k x5 x6 x7 x8 x19 (wrap64 (x10 + 1))))) else (some false)) else (if x7 ≤ x8 then (if x19 < x9 then (some false) else (if x7 ≥ x8 then (if x19 > x9 then (some false) else (laws_FnShapes.l0 k x5 x6 x7 x8 x19 (wrap64 (x10 + 1)))) else (laws_FnShapes.l0 k x5 x6 x7 x8 x19 (wrap64 (x10 + 1))))) else (if x7 ≥ x8 then (if x19 > x9 then (some false) else (laws_FnShapes.l0 k x5 x6 x7 x8 x19 (wrap64 (x10 + 1)))) else (laws_FnShapes.l0 k x5 x6 x7 x8 x19 (wrap64 (x10 + 1)))))))))
end
def laws_FnShapes.f (k : Nat) (l0 : List Int) (l1 : List Int) : Option (Bool) := (laws_a2Long.f l0 l1).bind fun t133 => (if t133 = true then (some true) else ((laws_a2At.f l0 0 4).bind fun t134 => ((laws_a2At.f l0 1 40).bind fun t135 => ((laws_a2At.f l1 0 200).bind fun t136 => ((laws_a2At.f l1 1 200).bind fun t137 => (laws_FnShapes.l0 k t134 (wrap64 (1 + t135)) t136 t137 t136 0))))))
theorem laws_FnShapes.mono_l : ∀ k, (∀ y0 y1 y2 y3 y4 y5, LeO (laws_FnShapes.l0 k y0 y1 y2 y3 y4 y5) (laws_FnShapes.l0 (k + 1) y0 y1 y2 y3 y4 y5)) ∧ (∀ y0 y1 y2 y3 y4 y5 y6 y7, LeO (laws_FnShapes.j1 k y0 y1 y2 y3 y4 y5 y6 y7) (laws_FnShapes.j1 (k + 1) y0 y1 y2 y3 y4 y5 y6 y7))
  | 0 => ⟨fun _ _ _ _ _ _ r h => by simp [laws_FnShapes.l0] at h, fun _ _ _ _ _ _ _ _ r h => by simp [laws_FnShapes.j1] at h⟩
  | k + 1 => by
    obtain ⟨ih0, ih1⟩ := laws_FnShapes.mono_l k
    refine ⟨?_, ?_⟩
    · intro y0 y1 y2 y3 y4 y5
      unfold laws_FnShapes.l0
      repeat' first
      | (with_reducible exact ih0 _ _ _ _ _ _)
      | (with_reducible exact ih1 _ _ _ _ _ _ _ _)
      | (with_reducible exact LeO.refl _)
      | (with_reducible exact LeO.none _)
      | (with_reducible refine LeO.ite ?_ ?_)
      | (with_reducible refine LeO.bind ?_ (fun _ => ?_))
      | exact ih0 _ _ _ _ _ _
      | exact ih1 _ _ _ _ _ _ _ _
      | exact LeO.none _
      | refine LeO.ite ?_ ?_
      | refine LeO.bind ?_ (fun _ => ?_)
    · intro y0 y1 y2 y3 y4 y5 y6 y7
      unfold laws_FnShapes.j1
      repeat' first
      | (with_reducible exact ih0 _ _ _ _ _ _)
      | (with_reducible exact ih1 _ _ _ _ _ _ _ _)
      | (with_reducible exact LeO.refl _)
      | (with_reducible exact LeO.none _)
      | (with_reducible refine LeO.ite ?_ ?_)
      | (with_reducible refine LeO.bind ?_ (fun _ => ?_))
      | exact ih0 _ _ _ _ _ _
      | exact ih1 _ _ _ _ _ _ _ _
      | exact LeO.none _
      | refine LeO.ite ?_ ?_
      | refine LeO.bind ?_ (fun _ => ?_)
theorem laws_FnShapes.mono : ∀ a0 a1 k, LeO (laws_FnShapes.f k a0 a1) (laws_FnShapes.f (k + 1) a0 a1) := by
  intro a0 a1 k
  obtain ⟨ih0, ih1⟩ := laws_FnShapes.mono_l k
  unfold laws_FnShapes.f
  repeat' first
      | (with_reducible exact ih0 _ _ _ _ _ _)
      | (with_reducible exact ih1 _ _ _ _ _ _ _ _)
      | (with_reducible exact LeO.refl _)
      | (with_reducible exact LeO.none _)
      | (with_reducible refine LeO.ite ?_ ?_)
      | (with_reducible refine LeO.bind ?_ (fun _ => ?_))
      | exact ih0 _ _ _ _ _ _
      | exact ih1 _ _ _ _ _ _ _ _
      | exact LeO.none _
      | refine LeO.ite ?_ ?_
      | refine LeO.bind ?_ (fun _ => ?_)
set_option maxHeartbeats 8000000 in
set_option maxRecDepth 100000 in
theorem laws_FnShapes.calls (k : Nat) (A0 : Option Addr) (c0 : Nat) (l0 : List Int) (A1 : Option Addr) (c1 : Nat) (l1 : List Int) (r : Bool) (w : World) (hr0 : Kd.C (Kd.int .u8) w A0 l0.length l0) (hc0 : l0.length ≤ c0) (hr1 : Kd.C (Kd.int .u8) w A1 l1.length l1) (hc1 : l1.length ≤ c1) (h : laws_FnShapes.f k l0 l1 = some r) :
    Calls Try.prog 14 #[.slice A0 l0.length c0, .slice A1 l1.length c1] w fun e w' => e = .returned (.bool r) ∧ Below w.heap.size w w' := by
  have HR0 := Aside0.mk hr0
  have HC0 := Aside0.mk hc0
  clear hr0 hc0
  have HR1 := Aside0.mk hr1
  have HC1 := Aside0.mk hc1
  clear hr1 hc1
  have HB := Aside0.mk (Below.refl w.heap.size w)
  have H : ((laws_a2Long.f l0 l1).bind fun t133 => (if t133 = true then (some true) else ((laws_a2At.f l0 0 4).bind fun t134 => ((laws_a2At.f l0 1 40).bind fun t135 => ((laws_a2At.f l1 0 200).bind fun t136 => ((laws_a2At.f l1 1 200).bind fun t137 => (laws_FnShapes.l0 k t134 (wrap64 (1 + t135)) t136 t137 t136 0))))))) = some r := h
  clear h
  replace H := Option.bind_eq_some_iff.mp H
  obtain ⟨t133, A30, H⟩ := H
  replace H : (if t133 = true then (some true) else ((laws_a2At.f l0 0 4).bind fun t134 => ((laws_a2At.f l0 1 40).bind fun t135 => ((laws_a2At.f l1 0 200).bind fun t136 => ((laws_a2At.f l1 1 200).bind fun t137 => (laws_FnShapes.l0 k t134 (wrap64 (1 + t135)) t136 t137 t136 0)))))) = some r := H
  have A3 := Aside0.mk A30
  clear A30
  by_cases c4 : t133 = true
  · subst c4
    have H1 : (some true) = some r := by rw [if_pos rfl] at H; exact H
    clear H
    have H := H1
    clear H1
    as_aux_lemma =>
      obtain rfl := Option.some.inj H
      go_enter Try.func14, Try.ntmps14
      go_wp2_with (first | ((with_reducible refine gate_callee (f := 52) rfl ?_); refine goesL_ (some 28) rfl rfl Try.func52 (by kernel_rfl) rfl #[.slice A0 l0.length c0, .slice A1 l1.length c1] rfl (by (try simp only [List.map_toArray, List.map_cons, List.map_nil]); first | done | rfl | (simp only [List.length_drop, List.length_take]; rfl)) ?_; (with_reducible refine (laws_a2Long.calls _ _ l0 _ _ l1 true _ ?side1 ?side2 ?side3 ?side4 A3.out).mono ?_); (case side1 => repeat (first | exact HR0.out | (with_reducible refine Kd.C_alloc ?_ _) | (with_reducible refine Kd.C_drewN ?_ _) | (with_reducible refine Kd.C_drew ?_))); (case side2 => exact HC0.out); (case side3 => repeat (first | exact HR1.out | (with_reducible refine Kd.C_alloc ?_ _) | (with_reducible refine Kd.C_drewN ?_ _) | (with_reducible refine Kd.C_drew ?_))); (case side4 => exact HC1.out); rintro e w' ⟨rfl, ⟨nd, rfl⟩⟩; refine ⟨_, rfl, ?_⟩))
      go_ret
      exact ⟨by first | rfl | (simp [errW_none, errW_some] <;> rfl) | (simp [*, errW_none, errW_some] <;> rfl), by repeat (first | (with_reducible first | exact HB.out | apply below_alloc | apply pw_below_drewN | apply below_drew1) | exact HB.out)⟩
  · replace c4 := Bool.eq_false_iff.mpr c4
    subst c4
    have H1 : ((laws_a2At.f l0 0 4).bind fun t134 => ((laws_a2At.f l0 1 40).bind fun t135 => ((laws_a2At.f l1 0 200).bind fun t136 => ((laws_a2At.f l1 1 200).bind fun t137 => (laws_FnShapes.l0 k t134 (wrap64 (1 + t135)) t136 t137 t136 0))))) = some r := by rw [if_neg (show ¬ (false = true) by decide)] at H; exact H
    clear H
    have H := H1
    clear H1
    replace H := Option.bind_eq_some_iff.mp H
    obtain ⟨t134, A50, H⟩ := H
    replace H : ((laws_a2At.f l0 1 40).bind fun t135 => ((laws_a2At.f l1 0 200).bind fun t136 => ((laws_a2At.f l1 1 200).bind fun t137 => (laws_FnShapes.l0 k t134 (wrap64 (1 + t135)) t136 t137 t136 0)))) = some r := H
    have A5 := Aside0.mk A50
    clear A50
    replace H := Option.bind_eq_some_iff.mp H
    obtain ⟨t135, A60, H⟩ := H
    replace H : ((laws_a2At.f l1 0 200).bind fun t136 => ((laws_a2At.f l1 1 200).bind fun t137 => (laws_FnShapes.l0 k t134 (wrap64 (1 + t135)) t136 t137 t136 0))) = some r := H
    have A6 := Aside0.mk A60
    clear A60
    replace H := Option.bind_eq_some_iff.mp H
    obtain ⟨t136, A70, H⟩ := H
    replace H : ((laws_a2At.f l1 1 200).bind fun t137 => (laws_FnShapes.l0 k t134 (wrap64 (1 + t135)) t136 t137 t136 0)) = some r := H
    have A7 := Aside0.mk A70
    clear A70
    replace H := Option.bind_eq_some_iff.mp H
    obtain ⟨t137, A80, H⟩ := H
    replace H : (laws_FnShapes.l0 k t134 (wrap64 (1 + t135)) t136 t137 t136 0) = some r := H
    have A8 := Aside0.mk A80
    clear A80
    have H' := Aside0.mk H
    clear H
    go_enter Try.func14, Try.ntmps14
    go_wp2_with (first | ((with_reducible refine gate_callee (f := 52) rfl ?_); refine goesL_ (some 28) rfl rfl Try.func52 (by kernel_rfl) rfl #[.slice A0 l0.length c0, .slice A1 l1.length c1] rfl (by (try simp only [List.map_toArray, List.map_cons, List.map_nil]); first | done | rfl | (simp only [List.length_drop, List.length_take]; rfl)) ?_; (with_reducible refine (laws_a2Long.calls _ _ l0 _ _ l1 false _ ?side1 ?side2 ?side3 ?side4 A3.out).mono ?_); (case side1 => repeat (first | exact HR0.out | (with_reducible refine Kd.C_alloc ?_ _) | (with_reducible refine Kd.C_drewN ?_ _) | (with_reducible refine Kd.C_drew ?_))); (case side2 => exact HC0.out); (case side3 => repeat (first | exact HR1.out | (with_reducible refine Kd.C_alloc ?_ _) | (with_reducible refine Kd.C_drewN ?_ _) | (with_reducible refine Kd.C_drew ?_))); (case side4 => exact HC1.out); rintro e w' ⟨rfl, ⟨nd, rfl⟩⟩; refine ⟨_, rfl, ?_⟩) | ((with_reducible refine gate_callee (f := 53) rfl ?_); refine goesL_ (some 30) rfl rfl Try.func53 (by kernel_rfl) rfl #[.slice A0 l0.length c0, .int .i64 0, .int .i64 4] rfl (by (try simp only [List.map_toArray, List.map_cons, List.map_nil]); first | done | rfl | (simp only [List.length_drop, List.length_take]; rfl)) ?_; (with_reducible refine (laws_a2At.calls _ _ l0 0 4 t134 _ ?side1 ?side2 A5.out).mono ?_); (case side1 => repeat (first | exact HR0.out | (with_reducible refine Kd.C_alloc ?_ _) | (with_reducible refine Kd.C_drewN ?_ _) | (with_reducible refine Kd.C_drew ?_))); (case side2 => exact HC0.out); rintro e w' ⟨rfl, ⟨nd, rfl⟩⟩; refine ⟨_, rfl, ?_⟩) | ((with_reducible refine gate_callee (f := 53) rfl ?_); refine goesL_ (some 32) rfl rfl Try.func53 (by kernel_rfl) rfl #[.slice A0 l0.length c0, .int .i64 1, .int .i64 40] rfl (by (try simp only [List.map_toArray, List.map_cons, List.map_nil]); first | done | rfl | (simp only [List.length_drop, List.length_take]; rfl)) ?_; (with_reducible refine (laws_a2At.calls _ _ l0 1 40 t135 _ ?side1 ?side2 A6.out).mono ?_); (case side1 => repeat (first | exact HR0.out | (with_reducible refine Kd.C_alloc ?_ _) | (with_reducible refine Kd.C_drewN ?_ _) | (with_reducible refine Kd.C_drew ?_))); (case side2 => exact HC0.out); rintro e w' ⟨rfl, ⟨nd, rfl⟩⟩; refine ⟨_, rfl, ?_⟩) | ((with_reducible refine gate_callee (f := 53) rfl ?_); refine goesL_ (some 35) rfl rfl Try.func53 (by kernel_rfl) rfl #[.slice A1 l1.length c1, .int .i64 0, .int .i64 200] rfl (by (try simp only [List.map_toArray, List.map_cons, List.map_nil]); first | done | rfl | (simp only [List.length_drop, List.length_take]; rfl)) ?_; (with_reducible refine (laws_a2At.calls _ _ l1 0 200 t136 _ ?side1 ?side2 A7.out).mono ?_); (case side1 => repeat (first | exact HR1.out | (with_reducible refine Kd.C_alloc ?_ _) | (with_reducible refine Kd.C_drewN ?_ _) | (with_reducible refine Kd.C_drew ?_))); (case side2 => exact HC1.out); rintro e w' ⟨rfl, ⟨nd, rfl⟩⟩; refine ⟨_, rfl, ?_⟩) | ((with_reducible refine gate_callee (f := 53) rfl ?_); refine goesL_ (some 37) rfl rfl Try.func53 (by kernel_rfl) rfl #[.slice A1 l1.length c1, .int .i64 1, .int .i64 200] rfl (by (try simp only [List.map_toArray, List.map_cons, List.map_nil]); first | done | rfl | (simp only [List.length_drop, List.length_take]; rfl)) ?_; (with_reducible refine (laws_a2At.calls _ _ l1 1 200 t137 _ ?side1 ?side2 A8.out).mono ?_); (case side1 => repeat (first | exact HR1.out | (with_reducible refine Kd.C_alloc ?_ _) | (with_reducible refine Kd.C_drewN ?_ _) | (with_reducible refine Kd.C_drew ?_))); (case side2 => exact HC1.out); rintro e w' ⟨rfl, ⟨nd, rfl⟩⟩; refine ⟨_, rfl, ?_⟩))
    go_loopg [9, 10] k (fun kq v9 v10 w' => ∃ (x9_1 : Int) (x10_1 : Int), v9 = .int .i64 x9_1 ∧ v10 = .int .i64 x10_1 ∧ Aside0 (laws_FnShapes.l0 kq t134 (wrap64 (1 + t135)) t136 t137 x9_1 x10_1 = some r) ∧ Aside0 (kq ≤ k) ∧ Aside0 (Below w.heap.size w w'))
    case atStart => exact ⟨(t136), (0), (by first | rfl | (simp; done) | (simp [*]; done)), (by first | rfl | (simp; done) | (simp [*]; done)), H', ⟨Nat.le_refl _⟩, ⟨by repeat (first | (with_reducible first | exact HB.out | apply below_alloc | apply pw_below_drewN | apply below_drew1) | exact HB.out)⟩⟩
    case round =>
      clear H'
      try clear c1
      try clear p2
      try clear c4
      try clear c5
      try clear p6
      obtain ⟨x9_1, x10_1, rfl, rfl, HA, HK1, HB⟩ := hrel
      cases gk with
      | zero => exact absurd HA.out (by simp [laws_FnShapes.l0])
      | succ k1 =>
        have H := HA.out
        clear HA
        simp only [laws_FnShapes.l0] at H
        by_cases c9 : x10_1 ≤ (wrap64 (1 + t135))
        · rw [if_pos c9] at H
          have c9b0 : decide (x10_1 ≤ (wrap64 (1 + t135))) = true := decide_eq_true c9
          clear c9
          replace H := Option.bind_eq_some_iff.mp H
          obtain ⟨⟨t141, t142, t143⟩, A100, H⟩ := H
          replace H : ((spec_ShapeOf.f t134 x10_1 (wrap64 (1 + t135))).bind fun bt144 => ((impl_LiftIn.f t136 t137 t134 x10_1 (wrap64 (1 + t135))).bind fun bt147 => ((spec_LiftIn.f t136 t137 t134 x10_1 (wrap64 (1 + t135))).bind fun bt149 => ((impl_LiftIn.f t137 t136 t134 (wrap64 ((wrap64 (1 + t135)) - x10_1)) (wrap64 (1 + t135))).bind fun bt151 => (if t143 = bt144.2.2 then (if t143 = 0 then (if t141 = bt144.1 then (if t142 = bt144.2.1 then (if bt144.2.1 < 1 then (laws_FnShapes.j1 k1 t134 (wrap64 (1 + t135)) t136 t137 x9_1 x10_1 bt149.1 true) else (if bt144.1 < 0 then (laws_FnShapes.j1 k1 t134 (wrap64 (1 + t135)) t136 t137 x9_1 x10_1 bt149.1 true) else (if bt144.1 > bt144.2.1 then (laws_FnShapes.j1 k1 t134 (wrap64 (1 + t135)) t136 t137 x9_1 x10_1 bt149.1 true) else (if bt147.2 = bt149.2 then (if bt147.2 = 0 then (if bt147.1 = bt149.1 then (if bt151.2 = 0 then (laws_FnShapes.j1 k1 t134 (wrap64 (1 + t135)) t136 t137 x9_1 x10_1 bt149.1 (bt151.1 != bt149.1)) else (laws_FnShapes.j1 k1 t134 (wrap64 (1 + t135)) t136 t137 x9_1 x10_1 bt149.1 true)) else (laws_FnShapes.j1 k1 t134 (wrap64 (1 + t135)) t136 t137 x9_1 x10_1 bt149.1 true)) else (laws_FnShapes.j1 k1 t134 (wrap64 (1 + t135)) t136 t137 x9_1 x10_1 bt149.1 true)) else (laws_FnShapes.j1 k1 t134 (wrap64 (1 + t135)) t136 t137 x9_1 x10_1 bt149.1 true))))) else (laws_FnShapes.j1 k1 t134 (wrap64 (1 + t135)) t136 t137 x9_1 x10_1 bt149.1 true)) else (laws_FnShapes.j1 k1 t134 (wrap64 (1 + t135)) t136 t137 x9_1 x10_1 bt149.1 true)) else (laws_FnShapes.j1 k1 t134 (wrap64 (1 + t135)) t136 t137 x9_1 x10_1 bt149.1 true)) else (laws_FnShapes.j1 k1 t134 (wrap64 (1 + t135)) t136 t137 x9_1 x10_1 bt149.1 true)))))) = some r := H
          have A10 := Aside0.mk A100
          clear A100
          replace H := Option.bind_eq_some_iff.mp H
          obtain ⟨⟨t144, t145, t146⟩, A110, H⟩ := H
          replace H : ((impl_LiftIn.f t136 t137 t134 x10_1 (wrap64 (1 + t135))).bind fun bt147 => ((spec_LiftIn.f t136 t137 t134 x10_1 (wrap64 (1 + t135))).bind fun bt149 => ((impl_LiftIn.f t137 t136 t134 (wrap64 ((wrap64 (1 + t135)) - x10_1)) (wrap64 (1 + t135))).bind fun bt151 => (if t143 = t146 then (if t143 = 0 then (if t141 = t144 then (if t142 = t145 then (if t145 < 1 then (laws_FnShapes.j1 k1 t134 (wrap64 (1 + t135)) t136 t137 x9_1 x10_1 bt149.1 true) else (if t144 < 0 then (laws_FnShapes.j1 k1 t134 (wrap64 (1 + t135)) t136 t137 x9_1 x10_1 bt149.1 true) else (if t144 > t145 then (laws_FnShapes.j1 k1 t134 (wrap64 (1 + t135)) t136 t137 x9_1 x10_1 bt149.1 true) else (if bt147.2 = bt149.2 then (if bt147.2 = 0 then (if bt147.1 = bt149.1 then (if bt151.2 = 0 then (laws_FnShapes.j1 k1 t134 (wrap64 (1 + t135)) t136 t137 x9_1 x10_1 bt149.1 (bt151.1 != bt149.1)) else (laws_FnShapes.j1 k1 t134 (wrap64 (1 + t135)) t136 t137 x9_1 x10_1 bt149.1 true)) else (laws_FnShapes.j1 k1 t134 (wrap64 (1 + t135)) t136 t137 x9_1 x10_1 bt149.1 true)) else (laws_FnShapes.j1 k1 t134 (wrap64 (1 + t135)) t136 t137 x9_1 x10_1 bt149.1 true)) else (laws_FnShapes.j1 k1 t134 (wrap64 (1 + t135)) t136 t137 x9_1 x10_1 bt149.1 true))))) else (laws_FnShapes.j1 k1 t134 (wrap64 (1 + t135)) t136 t137 x9_1 x10_1 bt149.1 true)) else (laws_FnShapes.j1 k1 t134 (wrap64 (1 + t135)) t136 t137 x9_1 x10_1 bt149.1 true)) else (laws_FnShapes.j1 k1 t134 (wrap64 (1 + t135)) t136 t137 x9_1 x10_1 bt149.1 true)) else (laws_FnShapes.j1 k1 t134 (wrap64 (1 + t135)) t136 t137 x9_1 x10_1 bt149.1 true))))) = some r := H
          have A11 := Aside0.mk A110
          clear A110
          replace H := Option.bind_eq_some_iff.mp H
          obtain ⟨⟨t147, t148⟩, A120, H⟩ := H
          replace H : ((spec_LiftIn.f t136 t137 t134 x10_1 (wrap64 (1 + t135))).bind fun bt149 => ((impl_LiftIn.f t137 t136 t134 (wrap64 ((wrap64 (1 + t135)) - x10_1)) (wrap64 (1 + t135))).bind fun bt151 => (if t143 = t146 then (if t143 = 0 then (if t141 = t144 then (if t142 = t145 then (if t145 < 1 then (laws_FnShapes.j1 k1 t134 (wrap64 (1 + t135)) t136 t137 x9_1 x10_1 bt149.1 true) else (if t144 < 0 then (laws_FnShapes.j1 k1 t134 (wrap64 (1 + t135)) t136 t137 x9_1 x10_1 bt149.1 true) else (if t144 > t145 then (laws_FnShapes.j1 k1 t134 (wrap64 (1 + t135)) t136 t137 x9_1 x10_1 bt149.1 true) else (if t148 = bt149.2 then (if t148 = 0 then (if t147 = bt149.1 then (if bt151.2 = 0 then (laws_FnShapes.j1 k1 t134 (wrap64 (1 + t135)) t136 t137 x9_1 x10_1 bt149.1 (bt151.1 != bt149.1)) else (laws_FnShapes.j1 k1 t134 (wrap64 (1 + t135)) t136 t137 x9_1 x10_1 bt149.1 true)) else (laws_FnShapes.j1 k1 t134 (wrap64 (1 + t135)) t136 t137 x9_1 x10_1 bt149.1 true)) else (laws_FnShapes.j1 k1 t134 (wrap64 (1 + t135)) t136 t137 x9_1 x10_1 bt149.1 true)) else (laws_FnShapes.j1 k1 t134 (wrap64 (1 + t135)) t136 t137 x9_1 x10_1 bt149.1 true))))) else (laws_FnShapes.j1 k1 t134 (wrap64 (1 + t135)) t136 t137 x9_1 x10_1 bt149.1 true)) else (laws_FnShapes.j1 k1 t134 (wrap64 (1 + t135)) t136 t137 x9_1 x10_1 bt149.1 true)) else (laws_FnShapes.j1 k1 t134 (wrap64 (1 + t135)) t136 t137 x9_1 x10_1 bt149.1 true)) else (laws_FnShapes.j1 k1 t134 (wrap64 (1 + t135)) t136 t137 x9_1 x10_1 bt149.1 true)))) = some r := H
          have A12 := Aside0.mk A120
          clear A120
          replace H := Option.bind_eq_some_iff.mp H
          obtain ⟨⟨t149, t150⟩, A130, H⟩ := H
          replace H : ((impl_LiftIn.f t137 t136 t134 (wrap64 ((wrap64 (1 + t135)) - x10_1)) (wrap64 (1 + t135))).bind fun bt151 => (if t143 = t146 then (if t143 = 0 then (if t141 = t144 then (if t142 = t145 then (if t145 < 1 then (laws_FnShapes.j1 k1 t134 (wrap64 (1 + t135)) t136 t137 x9_1 x10_1 t149 true) else (if t144 < 0 then (laws_FnShapes.j1 k1 t134 (wrap64 (1 + t135)) t136 t137 x9_1 x10_1 t149 true) else (if t144 > t145 then (laws_FnShapes.j1 k1 t134 (wrap64 (1 + t135)) t136 t137 x9_1 x10_1 t149 true) else (if t148 = t150 then (if t148 = 0 then (if t147 = t149 then (if bt151.2 = 0 then (laws_FnShapes.j1 k1 t134 (wrap64 (1 + t135)) t136 t137 x9_1 x10_1 t149 (bt151.1 != t149)) else (laws_FnShapes.j1 k1 t134 (wrap64 (1 + t135)) t136 t137 x9_1 x10_1 t149 true)) else (laws_FnShapes.j1 k1 t134 (wrap64 (1 + t135)) t136 t137 x9_1 x10_1 t149 true)) else (laws_FnShapes.j1 k1 t134 (wrap64 (1 + t135)) t136 t137 x9_1 x10_1 t149 true)) else (laws_FnShapes.j1 k1 t134 (wrap64 (1 + t135)) t136 t137 x9_1 x10_1 t149 true))))) else (laws_FnShapes.j1 k1 t134 (wrap64 (1 + t135)) t136 t137 x9_1 x10_1 t149 true)) else (laws_FnShapes.j1 k1 t134 (wrap64 (1 + t135)) t136 t137 x9_1 x10_1 t149 true)) else (laws_FnShapes.j1 k1 t134 (wrap64 (1 + t135)) t136 t137 x9_1 x10_1 t149 true)) else (laws_FnShapes.j1 k1 t134 (wrap64 (1 + t135)) t136 t137 x9_1 x10_1 t149 true))) = some r := H
          have A13 := Aside0.mk A130
          clear A130
          replace H := Option.bind_eq_some_iff.mp H
          obtain ⟨⟨t151, t152⟩, A140, H⟩ := H
          replace H : (if t143 = t146 then (if t143 = 0 then (if t141 = t144 then (if t142 = t145 then (if t145 < 1 then (laws_FnShapes.j1 k1 t134 (wrap64 (1 + t135)) t136 t137 x9_1 x10_1 t149 true) else (if t144 < 0 then (laws_FnShapes.j1 k1 t134 (wrap64 (1 + t135)) t136 t137 x9_1 x10_1 t149 true) else (if t144 > t145 then (laws_FnShapes.j1 k1 t134 (wrap64 (1 + t135)) t136 t137 x9_1 x10_1 t149 true) else (if t148 = t150 then (if t148 = 0 then (if t147 = t149 then (if t152 = 0 then (laws_FnShapes.j1 k1 t134 (wrap64 (1 + t135)) t136 t137 x9_1 x10_1 t149 (t151 != t149)) else (laws_FnShapes.j1 k1 t134 (wrap64 (1 + t135)) t136 t137 x9_1 x10_1 t149 true)) else (laws_FnShapes.j1 k1 t134 (wrap64 (1 + t135)) t136 t137 x9_1 x10_1 t149 true)) else (laws_FnShapes.j1 k1 t134 (wrap64 (1 + t135)) t136 t137 x9_1 x10_1 t149 true)) else (laws_FnShapes.j1 k1 t134 (wrap64 (1 + t135)) t136 t137 x9_1 x10_1 t149 true))))) else (laws_FnShapes.j1 k1 t134 (wrap64 (1 + t135)) t136 t137 x9_1 x10_1 t149 true)) else (laws_FnShapes.j1 k1 t134 (wrap64 (1 + t135)) t136 t137 x9_1 x10_1 t149 true)) else (laws_FnShapes.j1 k1 t134 (wrap64 (1 + t135)) t136 t137 x9_1 x10_1 t149 true)) else (laws_FnShapes.j1 k1 t134 (wrap64 (1 + t135)) t136 t137 x9_1 x10_1 t149 true)) = some r := H
          have A14 := Aside0.mk A140
          clear A140
          have HC15 := Aside0.mk H
          clear H
          go_upto_region 16 with (first | ((with_reducible refine gate_callee (f := 54) rfl ?_); refine goesL_ (some 48) rfl rfl Try.func54 (by kernel_rfl) rfl #[.int .i64 t134, .int .i64 x10_1, .int .i64 (wrap64 (1 + t135))] rfl (by (try simp only [List.map_toArray, List.map_cons, List.map_nil]); first | done | rfl | (simp only [List.length_drop, List.length_take]; rfl)) ?_; (with_reducible refine (impl_ShapeOf.calls t134 x10_1 (wrap64 (1 + t135)) t141 t142 t143 _ A10.out).mono ?_); rintro e w' ⟨rfl, ⟨nd, rfl⟩⟩; refine ⟨_, rfl, ?_⟩) | ((with_reducible refine gate_callee (f := 55) rfl ?_); refine goesL_ (some 56) rfl rfl Try.func55 (by kernel_rfl) rfl #[.int .i64 t134, .int .i64 x10_1, .int .i64 (wrap64 (1 + t135))] rfl (by (try simp only [List.map_toArray, List.map_cons, List.map_nil]); first | done | rfl | (simp only [List.length_drop, List.length_take]; rfl)) ?_; (with_reducible refine (spec_ShapeOf.calls t134 x10_1 (wrap64 (1 + t135)) t144 t145 t146 _ A11.out).mono ?_); rintro e w' ⟨rfl, ⟨nd, rfl⟩⟩; refine ⟨_, rfl, ?_⟩) | ((with_reducible refine gate_callee (f := 37) rfl ?_); refine goesL_ (some 66) rfl rfl Try.func37 (by kernel_rfl) rfl #[.int .i64 t136, .int .i64 t137, .int .i64 t134, .int .i64 x10_1, .int .i64 (wrap64 (1 + t135))] rfl (by (try simp only [List.map_toArray, List.map_cons, List.map_nil]); first | done | rfl | (simp only [List.length_drop, List.length_take]; rfl)) ?_; (with_reducible refine (impl_LiftIn.calls t136 t137 t134 x10_1 (wrap64 (1 + t135)) t147 t148 _ A12.out).mono ?_); rintro e w' ⟨rfl, ⟨nd, rfl⟩⟩; refine ⟨_, rfl, ?_⟩) | ((with_reducible refine gate_callee (f := 36) rfl ?_); refine goesL_ (some 75) rfl rfl Try.func36 (by kernel_rfl) rfl #[.int .i64 t136, .int .i64 t137, .int .i64 t134, .int .i64 x10_1, .int .i64 (wrap64 (1 + t135))] rfl (by (try simp only [List.map_toArray, List.map_cons, List.map_nil]); first | done | rfl | (simp only [List.length_drop, List.length_take]; rfl)) ?_; (with_reducible refine (spec_LiftIn.calls t136 t137 t134 x10_1 (wrap64 (1 + t135)) t149 t150 _ A13.out).mono ?_); rintro e w' ⟨rfl, ⟨nd, rfl⟩⟩; refine ⟨_, rfl, ?_⟩) | ((with_reducible refine gate_callee (f := 37) rfl ?_); refine goesL_ (some 86) rfl rfl Try.func37 (by kernel_rfl) rfl #[.int .i64 t137, .int .i64 t136, .int .i64 t134, .int .i64 (wrap64 ((wrap64 (1 + t135)) - x10_1)), .int .i64 (wrap64 (1 + t135))] rfl (by (try simp only [List.map_toArray, List.map_cons, List.map_nil]); first | done | rfl | (simp only [List.length_drop, List.length_take]; rfl)) ?_; (with_reducible refine (impl_LiftIn.calls t137 t136 t134 (wrap64 ((wrap64 (1 + t135)) - x10_1)) (wrap64 (1 + t135)) t151 t152 _ A14.out).mono ?_); rintro e w' ⟨rfl, ⟨nd, rfl⟩⟩; refine ⟨_, rfl, ?_⟩))
          (try simp only [Act.put, List.setIfInBounds_toArray, List.set_cons_zero, List.set_cons_succ])
          go_cut [141] (fun v141 wc => ∃ (kq : Nat) (x141_14 : Bool), v141 = .bool x141_14 ∧ Aside0 (laws_FnShapes.j1 kq t134 (wrap64 (1 + t135)) t136 t137 x9_1 x10_1 t149 x141_14 = some r) ∧ Aside0 (kq ≤ k1) ∧ Aside0 (Below w.heap.size w wc))
          case first =>
            have H := HC15.out
            clear HC15
            by_cases c16 : t143 = t146
            · rw [if_pos c16] at H
              have c16b0 : (t143 == t146) = true := beq_iff_eq.mpr c16
              have c16b1 : (t143 != t146) = false := bne_eq_false_iff_eq.mpr c16
              clear c16
              (first | rw [c16b0] | (simp only [i64_w, i32_w]; rw [c16b0]) | skip)
              by_cases c17 : t143 = 0
              · rw [if_pos c17] at H
                have c17b0 : (t143 == 0) = true := beq_iff_eq.mpr c17
                have c17b1 : (t143 != 0) = false := bne_eq_false_iff_eq.mpr c17
                clear c17
                by_cases c18 : t141 = t144
                · rw [if_pos c18] at H
                  have c18b0 : (t141 == t144) = true := beq_iff_eq.mpr c18
                  have c18b1 : (t141 != t144) = false := bne_eq_false_iff_eq.mpr c18
                  clear c18
                  by_cases c19 : t142 = t145
                  · rw [if_pos c19] at H
                    have c19b0 : (t142 == t145) = true := beq_iff_eq.mpr c19
                    have c19b1 : (t142 != t145) = false := bne_eq_false_iff_eq.mpr c19
                    clear c19
                    by_cases c20 : t145 < 1
                    · rw [if_pos c20] at H
                      have c20b0 : decide (t145 < 1) = true := decide_eq_true c20
                      clear c20
                      as_aux_lemma =>
                        have H' := Aside0.mk H
                        clear H
                        go_wp2
                        go_meet
                        case rel => exact ⟨_, (true), (by first | rfl | (simp; done) | (simp [*]; done)), H', ⟨by have := HK1.out; first | omega | exact Nat.le_refl _⟩, ⟨by repeat (first | (with_reducible first | exact HB.out | apply below_alloc | apply pw_below_drewN | apply below_drew1) | exact HB.out)⟩⟩
                    · rw [if_neg c20] at H
                      have c20b0 : decide (t145 < 1) = false := decide_eq_false c20
                      clear c20
                      by_cases c21 : t144 < 0
                      · rw [if_pos c21] at H
                        have c21b0 : decide (t144 < 0) = true := decide_eq_true c21
                        clear c21
                        as_aux_lemma =>
                          have H' := Aside0.mk H
                          clear H
                          go_wp2
                          go_meet
                          case rel => exact ⟨_, (true), (by first | rfl | (simp; done) | (simp [*]; done)), H', ⟨by have := HK1.out; first | omega | exact Nat.le_refl _⟩, ⟨by repeat (first | (with_reducible first | exact HB.out | apply below_alloc | apply pw_below_drewN | apply below_drew1) | exact HB.out)⟩⟩
                      · rw [if_neg c21] at H
                        have c21b0 : decide (t144 < 0) = false := decide_eq_false c21
                        clear c21
                        by_cases c22 : t144 > t145
                        · rw [if_pos c22] at H
                          have c22b0 : decide (t145 < t144) = true := decide_eq_true c22
                          clear c22
                          as_aux_lemma =>
                            have H' := Aside0.mk H
                            clear H
                            go_wp2
                            go_meet
                            case rel => exact ⟨_, (true), (by first | rfl | (simp; done) | (simp [*]; done)), H', ⟨by have := HK1.out; first | omega | exact Nat.le_refl _⟩, ⟨by repeat (first | (with_reducible first | exact HB.out | apply below_alloc | apply pw_below_drewN | apply below_drew1) | exact HB.out)⟩⟩
                        · rw [if_neg c22] at H
                          have c22b0 : decide (t145 < t144) = false := decide_eq_false c22
                          clear c22
                          by_cases c23 : t148 = t150
                          · rw [if_pos c23] at H
                            have c23b0 : (t148 == t150) = true := beq_iff_eq.mpr c23
                            have c23b1 : (t148 != t150) = false := bne_eq_false_iff_eq.mpr c23
                            clear c23
                            by_cases c24 : t148 = 0
                            · rw [if_pos c24] at H
                              have c24b0 : (t148 == 0) = true := beq_iff_eq.mpr c24
                              have c24b1 : (t148 != 0) = false := bne_eq_false_iff_eq.mpr c24
                              clear c24
                              by_cases c25 : t147 = t149
                              · rw [if_pos c25] at H
                                have c25b0 : (t147 == t149) = true := beq_iff_eq.mpr c25
                                have c25b1 : (t147 != t149) = false := bne_eq_false_iff_eq.mpr c25
                                clear c25
                                by_cases c26 : t152 = 0
                                · rw [if_pos c26] at H
                                  have c26b0 : (t152 == 0) = true := beq_iff_eq.mpr c26
                                  have c26b1 : (t152 != 0) = false := bne_eq_false_iff_eq.mpr c26
                                  clear c26
                                  as_aux_lemma =>
                                    have H' := Aside0.mk H
                                    clear H
                                    go_wp2
                                    go_meet
                                    case rel => exact ⟨_, ((t151 != t149)), (by first | rfl | (simp; done) | (simp [*]; done)), H', ⟨by have := HK1.out; first | omega | exact Nat.le_refl _⟩, ⟨by repeat (first | (with_reducible first | exact HB.out | apply below_alloc | apply pw_below_drewN | apply below_drew1) | exact HB.out)⟩⟩
                                · rw [if_neg c26] at H
                                  have c26b0 : (t152 == 0) = false := beq_eq_false_iff_ne.mpr c26
                                  have c26b1 : (t152 != 0) = true := bne_iff_ne.mpr c26
                                  as_aux_lemma =>
                                    have H' := Aside0.mk H
                                    clear H
                                    go_wp2
                                    go_meet
                                    case rel => exact ⟨_, (true), (by first | rfl | (simp; done) | (simp [*]; done)), H', ⟨by have := HK1.out; first | omega | exact Nat.le_refl _⟩, ⟨by repeat (first | (with_reducible first | exact HB.out | apply below_alloc | apply pw_below_drewN | apply below_drew1) | exact HB.out)⟩⟩
                              · rw [if_neg c25] at H
                                have c25b0 : (t147 == t149) = false := beq_eq_false_iff_ne.mpr c25
                                have c25b1 : (t147 != t149) = true := bne_iff_ne.mpr c25
                                as_aux_lemma =>
                                  have H' := Aside0.mk H
                                  clear H
                                  go_wp2
                                  go_meet
                                  case rel => exact ⟨_, (true), (by first | rfl | (simp; done) | (simp [*]; done)), H', ⟨by have := HK1.out; first | omega | exact Nat.le_refl _⟩, ⟨by repeat (first | (with_reducible first | exact HB.out | apply below_alloc | apply pw_below_drewN | apply below_drew1) | exact HB.out)⟩⟩
                            · rw [if_neg c24] at H
                              have c24b0 : (t148 == 0) = false := beq_eq_false_iff_ne.mpr c24
                              have c24b1 : (t148 != 0) = true := bne_iff_ne.mpr c24
                              as_aux_lemma =>
                                have H' := Aside0.mk H
                                clear H
                                go_wp2
                                go_meet
                                case rel => exact ⟨_, (true), (by first | rfl | (simp; done) | (simp [*]; done)), H', ⟨by have := HK1.out; first | omega | exact Nat.le_refl _⟩, ⟨by repeat (first | (with_reducible first | exact HB.out | apply below_alloc | apply pw_below_drewN | apply below_drew1) | exact HB.out)⟩⟩
                          · rw [if_neg c23] at H
                            have c23b0 : (t148 == t150) = false := beq_eq_false_iff_ne.mpr c23
                            have c23b1 : (t148 != t150) = true := bne_iff_ne.mpr c23
                            as_aux_lemma =>
                              have H' := Aside0.mk H
                              clear H
                              go_wp2
                              go_meet
                              case rel => exact ⟨_, (true), (by first | rfl | (simp; done) | (simp [*]; done)), H', ⟨by have := HK1.out; first | omega | exact Nat.le_refl _⟩, ⟨by repeat (first | (with_reducible first | exact HB.out | apply below_alloc | apply pw_below_drewN | apply below_drew1) | exact HB.out)⟩⟩
                  · rw [if_neg c19] at H
                    have c19b0 : (t142 == t145) = false := beq_eq_false_iff_ne.mpr c19
                    have c19b1 : (t142 != t145) = true := bne_iff_ne.mpr c19
                    as_aux_lemma =>
                      have H' := Aside0.mk H
                      clear H
                      go_wp2
                      go_meet
                      case rel => exact ⟨_, (true), (by first | rfl | (simp; done) | (simp [*]; done)), H', ⟨by have := HK1.out; first | omega | exact Nat.le_refl _⟩, ⟨by repeat (first | (with_reducible first | exact HB.out | apply below_alloc | apply pw_below_drewN | apply below_drew1) | exact HB.out)⟩⟩
                · rw [if_neg c18] at H
                  have c18b0 : (t141 == t144) = false := beq_eq_false_iff_ne.mpr c18
                  have c18b1 : (t141 != t144) = true := bne_iff_ne.mpr c18
                  as_aux_lemma =>
                    have H' := Aside0.mk H
                    clear H
                    go_wp2
                    go_meet
                    case rel => exact ⟨_, (true), (by first | rfl | (simp; done) | (simp [*]; done)), H', ⟨by have := HK1.out; first | omega | exact Nat.le_refl _⟩, ⟨by repeat (first | (with_reducible first | exact HB.out | apply below_alloc | apply pw_below_drewN | apply below_drew1) | exact HB.out)⟩⟩
              · rw [if_neg c17] at H
                have c17b0 : (t143 == 0) = false := beq_eq_false_iff_ne.mpr c17
                have c17b1 : (t143 != 0) = true := bne_iff_ne.mpr c17
                as_aux_lemma =>
                  have H' := Aside0.mk H
                  clear H
                  go_wp2
                  go_meet
                  case rel => exact ⟨_, (true), (by first | rfl | (simp; done) | (simp [*]; done)), H', ⟨by have := HK1.out; first | omega | exact Nat.le_refl _⟩, ⟨by repeat (first | (with_reducible first | exact HB.out | apply below_alloc | apply pw_below_drewN | apply below_drew1) | exact HB.out)⟩⟩
            · rw [if_neg c16] at H
              have c16b0 : (t143 == t146) = false := beq_eq_false_iff_ne.mpr c16
              have c16b1 : (t143 != t146) = true := bne_iff_ne.mpr c16
              (first | rw [c16b0] | (simp only [i64_w, i32_w]; rw [c16b0]) | skip)
              as_aux_lemma =>
                have H' := Aside0.mk H
                clear H
                go_wp2
                go_meet
                case rel => exact ⟨_, (true), (by first | rfl | (simp; done) | (simp [*]; done)), H', ⟨by have := HK1.out; first | omega | exact Nat.le_refl _⟩, ⟨by repeat (first | (with_reducible first | exact HB.out | apply below_alloc | apply pw_below_drewN | apply below_drew1) | exact HB.out)⟩⟩
          case rest =>
            clear HC15
            try clear c1
            try clear c2
            try clear p2
            try clear c3
            try clear c4
            try clear c5
            try clear p6
            try clear c9
            try clear c9b0
            try clear c14
            try clear c16
            try clear c16b0
            try clear c16b1
            try clear c17
            try clear c17b0
            try clear c17b1
            try clear c18
            try clear c18b0
            try clear c18b1
            try clear c19
            try clear c19b0
            try clear c19b1
            try clear c20
            try clear c20b0
            try clear c21
            try clear c21b0
            try clear c22
            try clear c22b0
            try clear c23
            try clear c23b0
            try clear c23b1
            try clear c24
            try clear c24b0
            try clear c24b1
            try clear c25
            try clear c25b0
            try clear c25b1
            try clear c26
            try clear c26b0
            try clear c26b1
            try clear p2
            try clear p6
            obtain ⟨kq, x141_14, rfl, HA, HJ14, HB⟩ := hcut
            cases kq with
            | zero => exact absurd HA.out (by simp [laws_FnShapes.j1])
            | succ kj14 =>
              have H := HA.out
              clear HA
              simp only [laws_FnShapes.j1] at H
              by_cases c27 : x141_14 = true
              · subst c27
                have H1 : (some false) = some r := by rw [if_pos rfl] at H; exact H
                clear H
                have H := H1
                clear H1
                as_aux_lemma =>
                  obtain rfl := Option.some.inj H
                  go_wp2
                  go_ret
                  exact ⟨by first | rfl | (simp [errW_none, errW_some] <;> rfl) | (simp [*, errW_none, errW_some] <;> rfl), by repeat (first | (with_reducible first | exact HB.out | apply below_alloc | apply pw_below_drewN | apply below_drew1) | exact HB.out)⟩
              · replace c27 := Bool.eq_false_iff.mpr c27
                subst c27
                have H1 : (if t149 < (mn t136 t137) then (some false) else (if t149 > (mx t136 t137) then (some false) else (if x10_1 = 0 then (if t149 = t136 then (if x10_1 = (wrap64 (1 + t135)) then (if t149 = t137 then (if t136 ≤ t137 then (if t149 < x9_1 then (some false) else (if t136 ≥ t137 then (if t149 > x9_1 then (some false) else (laws_FnShapes.l0 kj14 t134 (wrap64 (1 + t135)) t136 t137 t149 (wrap64 (x10_1 + 1)))) else (laws_FnShapes.l0 kj14 t134 (wrap64 (1 + t135)) t136 t137 t149 (wrap64 (x10_1 + 1))))) else (if t136 ≥ t137 then (if t149 > x9_1 then (some false) else (laws_FnShapes.l0 kj14 t134 (wrap64 (1 + t135)) t136 t137 t149 (wrap64 (x10_1 + 1)))) else (laws_FnShapes.l0 kj14 t134 (wrap64 (1 + t135)) t136 t137 t149 (wrap64 (x10_1 + 1))))) else (some false)) else (if t136 ≤ t137 then (if t149 < x9_1 then (some false) else (if t136 ≥ t137 then (if t149 > x9_1 then (some false) else (laws_FnShapes.l0 kj14 t134 (wrap64 (1 + t135)) t136 t137 t149 (wrap64 (x10_1 + 1)))) else (laws_FnShapes.l0 kj14 t134 (wrap64 (1 + t135)) t136 t137 t149 (wrap64 (x10_1 + 1))))) else (if t136 ≥ t137 then (if t149 > x9_1 then (some false) else (laws_FnShapes.l0 kj14 t134 (wrap64 (1 + t135)) t136 t137 t149 (wrap64 (x10_1 + 1)))) else (laws_FnShapes.l0 kj14 t134 (wrap64 (1 + t135)) t136 t137 t149 (wrap64 (x10_1 + 1)))))) else (some false)) else (if x10_1 = (wrap64 (1 + t135)) then (if t149 = t137 then (if t136 ≤ t137 then (if t149 < x9_1 then (some false) else (if t136 ≥ t137 then (if t149 > x9_1 then (some false) else (laws_FnShapes.l0 kj14 t134 (wrap64 (1 + t135)) t136 t137 t149 (wrap64 (x10_1 + 1)))) else (laws_FnShapes.l0 kj14 t134 (wrap64 (1 + t135)) t136 t137 t149 (wrap64 (x10_1 + 1))))) else (if t136 ≥ t137 then (if t149 > x9_1 then (some false) else (laws_FnShapes.l0 kj14 t134 (wrap64 (1 + t135)) t136 t137 t149 (wrap64 (x10_1 + 1)))) else (laws_FnShapes.l0 kj14 t134 (wrap64 (1 + t135)) t136 t137 t149 (wrap64 (x10_1 + 1))))) else (some false)) else (if t136 ≤ t137 then (if t149 < x9_1 then (some false) else (if t136 ≥ t137 then (if t149 > x9_1 then (some false) else (laws_FnShapes.l0 kj14 t134 (wrap64 (1 + t135)) t136 t137 t149 (wrap64 (x10_1 + 1)))) else (laws_FnShapes.l0 kj14 t134 (wrap64 (1 + t135)) t136 t137 t149 (wrap64 (x10_1 + 1))))) else (if t136 ≥ t137 then (if t149 > x9_1 then (some false) else (laws_FnShapes.l0 kj14 t134 (wrap64 (1 + t135)) t136 t137 t149 (wrap64 (x10_1 + 1)))) else (laws_FnShapes.l0 kj14 t134 (wrap64 (1 + t135)) t136 t137 t149 (wrap64 (x10_1 + 1))))))))) = some r := by rw [if_neg (show ¬ (false = true) by decide)] at H; exact H
                clear H
                have H := H1
                clear H1
                obtain ⟨ji28, hji28⟩ : ∃ j_ : Int, (mn t136 t137) = j_ := ⟨_, rfl⟩
                replace H : (if t149 < (ji28) then (some false) else (if t149 > (mx t136 t137) then (some false) else (if x10_1 = 0 then (if t149 = t136 then (if x10_1 = (wrap64 (1 + t135)) then (if t149 = t137 then (if t136 ≤ t137 then (if t149 < x9_1 then (some false) else (if t136 ≥ t137 then (if t149 > x9_1 then (some false) else (laws_FnShapes.l0 kj14 t134 (wrap64 (1 + t135)) t136 t137 t149 (wrap64 (x10_1 + 1)))) else (laws_FnShapes.l0 kj14 t134 (wrap64 (1 + t135)) t136 t137 t149 (wrap64 (x10_1 + 1))))) else (if t136 ≥ t137 then (if t149 > x9_1 then (some false) else (laws_FnShapes.l0 kj14 t134 (wrap64 (1 + t135)) t136 t137 t149 (wrap64 (x10_1 + 1)))) else (laws_FnShapes.l0 kj14 t134 (wrap64 (1 + t135)) t136 t137 t149 (wrap64 (x10_1 + 1))))) else (some false)) else (if t136 ≤ t137 then (if t149 < x9_1 then (some false) else (if t136 ≥ t137 then (if t149 > x9_1 then (some false) else (laws_FnShapes.l0 kj14 t134 (wrap64 (1 + t135)) t136 t137 t149 (wrap64 (x10_1 + 1)))) else (laws_FnShapes.l0 kj14 t134 (wrap64 (1 + t135)) t136 t137 t149 (wrap64 (x10_1 + 1))))) else (if t136 ≥ t137 then (if t149 > x9_1 then (some false) else (laws_FnShapes.l0 kj14 t134 (wrap64 (1 + t135)) t136 t137 t149 (wrap64 (x10_1 + 1)))) else (laws_FnShapes.l0 kj14 t134 (wrap64 (1 + t135)) t136 t137 t149 (wrap64 (x10_1 + 1)))))) else (some false)) else (if x10_1 = (wrap64 (1 + t135)) then (if t149 = t137 then (if t136 ≤ t137 then (if t149 < x9_1 then (some false) else (if t136 ≥ t137 then (if t149 > x9_1 then (some false) else (laws_FnShapes.l0 kj14 t134 (wrap64 (1 + t135)) t136 t137 t149 (wrap64 (x10_1 + 1)))) else (laws_FnShapes.l0 kj14 t134 (wrap64 (1 + t135)) t136 t137 t149 (wrap64 (x10_1 + 1))))) else (if t136 ≥ t137 then (if t149 > x9_1 then (some false) else (laws_FnShapes.l0 kj14 t134 (wrap64 (1 + t135)) t136 t137 t149 (wrap64 (x10_1 + 1)))) else (laws_FnShapes.l0 kj14 t134 (wrap64 (1 + t135)) t136 t137 t149 (wrap64 (x10_1 + 1))))) else (some false)) else (if t136 ≤ t137 then (if t149 < x9_1 then (some false) else (if t136 ≥ t137 then (if t149 > x9_1 then (some false) else (laws_FnShapes.l0 kj14 t134 (wrap64 (1 + t135)) t136 t137 t149 (wrap64 (x10_1 + 1)))) else (laws_FnShapes.l0 kj14 t134 (wrap64 (1 + t135)) t136 t137 t149 (wrap64 (x10_1 + 1))))) else (if t136 ≥ t137 then (if t149 > x9_1 then (some false) else (laws_FnShapes.l0 kj14 t134 (wrap64 (1 + t135)) t136 t137 t149 (wrap64 (x10_1 + 1)))) else (laws_FnShapes.l0 kj14 t134 (wrap64 (1 + t135)) t136 t137 t149 (wrap64 (x10_1 + 1))))))))) = some r := by first | (rw [hji28] at H; exact H) | (simp only [hji28] at H ⊢; exact H)
                have hji28_ : (if t137 < t136 then t137 else t136) = ji28 := hji28
                by_cases c29 : t149 < (ji28)
                · rw [if_pos c29] at H
                  have c29b0 : decide (t149 < (ji28)) = true := decide_eq_true c29
                  clear c29
                  as_aux_lemma =>
                    obtain rfl := Option.some.inj H
                    go_wp2
                    go_ret
                    exact ⟨by first | rfl | (simp [errW_none, errW_some] <;> rfl) | (simp only [← hji28]; first | rfl | (simp [errW_none, errW_some] <;> rfl)) | (simp [*, errW_none, errW_some] <;> rfl), by repeat (first | (with_reducible first | exact HB.out | apply below_alloc | apply pw_below_drewN | apply below_drew1) | exact HB.out)⟩
                · rw [if_neg c29] at H
                  have c29b0 : decide (t149 < (ji28)) = false := decide_eq_false c29
                  clear c29
                  obtain ⟨ji30, hji30⟩ : ∃ j_ : Int, (mx t136 t137) = j_ := ⟨_, rfl⟩
                  replace H : (if t149 > (ji30) then (some false) else (if x10_1 = 0 then (if t149 = t136 then (if x10_1 = (wrap64 (1 + t135)) then (if t149 = t137 then (if t136 ≤ t137 then (if t149 < x9_1 then (some false) else (if t136 ≥ t137 then (if t149 > x9_1 then (some false) else (laws_FnShapes.l0 kj14 t134 (wrap64 (1 + t135)) t136 t137 t149 (wrap64 (x10_1 + 1)))) else (laws_FnShapes.l0 kj14 t134 (wrap64 (1 + t135)) t136 t137 t149 (wrap64 (x10_1 + 1))))) else (if t136 ≥ t137 then (if t149 > x9_1 then (some false) else (laws_FnShapes.l0 kj14 t134 (wrap64 (1 + t135)) t136 t137 t149 (wrap64 (x10_1 + 1)))) else (laws_FnShapes.l0 kj14 t134 (wrap64 (1 + t135)) t136 t137 t149 (wrap64 (x10_1 + 1))))) else (some false)) else (if t136 ≤ t137 then (if t149 < x9_1 then (some false) else (if t136 ≥ t137 then (if t149 > x9_1 then (some false) else (laws_FnShapes.l0 kj14 t134 (wrap64 (1 + t135)) t136 t137 t149 (wrap64 (x10_1 + 1)))) else (laws_FnShapes.l0 kj14 t134 (wrap64 (1 + t135)) t136 t137 t149 (wrap64 (x10_1 + 1))))) else (if t136 ≥ t137 then (if t149 > x9_1 then (some false) else (laws_FnShapes.l0 kj14 t134 (wrap64 (1 + t135)) t136 t137 t149 (wrap64 (x10_1 + 1)))) else (laws_FnShapes.l0 kj14 t134 (wrap64 (1 + t135)) t136 t137 t149 (wrap64 (x10_1 + 1)))))) else (some false)) else (if x10_1 = (wrap64 (1 + t135)) then (if t149 = t137 then (if t136 ≤ t137 then (if t149 < x9_1 then (some false) else (if t136 ≥ t137 then (if t149 > x9_1 then (some false) else (laws_FnShapes.l0 kj14 t134 (wrap64 (1 + t135)) t136 t137 t149 (wrap64 (x10_1 + 1)))) else (laws_FnShapes.l0 kj14 t134 (wrap64 (1 + t135)) t136 t137 t149 (wrap64 (x10_1 + 1))))) else (if t136 ≥ t137 then (if t149 > x9_1 then (some false) else (laws_FnShapes.l0 kj14 t134 (wrap64 (1 + t135)) t136 t137 t149 (wrap64 (x10_1 + 1)))) else (laws_FnShapes.l0 kj14 t134 (wrap64 (1 + t135)) t136 t137 t149 (wrap64 (x10_1 + 1))))) else (some false)) else (if t136 ≤ t137 then (if t149 < x9_1 then (some false) else (if t136 ≥ t137 then (if t149 > x9_1 then (some false) else (laws_FnShapes.l0 kj14 t134 (wrap64 (1 + t135)) t136 t137 t149 (wrap64 (x10_1 + 1)))) else (laws_FnShapes.l0 kj14 t134 (wrap64 (1 + t135)) t136 t137 t149 (wrap64 (x10_1 + 1))))) else (if t136 ≥ t137 then (if t149 > x9_1 then (some false) else (laws_FnShapes.l0 kj14 t134 (wrap64 (1 + t135)) t136 t137 t149 (wrap64 (x10_1 + 1)))) else (laws_FnShapes.l0 kj14 t134 (wrap64 (1 + t135)) t136 t137 t149 (wrap64 (x10_1 + 1)))))))) = some r := by first | (rw [hji30] at H; exact H) | (simp only [hji30] at H ⊢; exact H)
                  have hji30_ : (if t136 < t137 then t137 else t136) = ji30 := hji30
                  by_cases c31 : t149 > (ji30)
                  · rw [if_pos c31] at H
                    have c31b0 : decide ((ji30) < t149) = true := decide_eq_true c31
                    clear c31
                    as_aux_lemma =>
                      obtain rfl := Option.some.inj H
                      go_wp2
                      go_ret
                      exact ⟨by first | rfl | (simp [errW_none, errW_some] <;> rfl) | (simp only [← hji28, ← hji30]; first | rfl | (simp [errW_none, errW_some] <;> rfl)) | (simp [*, errW_none, errW_some] <;> rfl), by repeat (first | (with_reducible first | exact HB.out | apply below_alloc | apply pw_below_drewN | apply below_drew1) | exact HB.out)⟩
                  · rw [if_neg c31] at H
                    have c31b0 : decide ((ji30) < t149) = false := decide_eq_false c31
                    clear c31
                    by_cases c32 : x10_1 = 0
                    · rw [if_pos c32] at H
                      have c32b0 : (x10_1 == 0) = true := beq_iff_eq.mpr c32
                      have c32b1 : (x10_1 != 0) = false := bne_eq_false_iff_eq.mpr c32
                      clear c32
                      by_cases c33 : t149 = t136
                      · rw [if_pos c33] at H
                        have c33b0 : (t149 == t136) = true := beq_iff_eq.mpr c33
                        have c33b1 : (t149 != t136) = false := bne_eq_false_iff_eq.mpr c33
                        clear c33
                        by_cases c34 : x10_1 = (wrap64 (1 + t135))
                        · rw [if_pos c34] at H
                          have c34b0 : (x10_1 == (wrap64 (1 + t135))) = true := beq_iff_eq.mpr c34
                          have c34b1 : (x10_1 != (wrap64 (1 + t135))) = false := bne_eq_false_iff_eq.mpr c34
                          clear c34
                          by_cases c35 : t149 = t137
                          · rw [if_pos c35] at H
                            have c35b0 : (t149 == t137) = true := beq_iff_eq.mpr c35
                            have c35b1 : (t149 != t137) = false := bne_eq_false_iff_eq.mpr c35
                            clear c35
                            by_cases c36 : t136 ≤ t137
                            · rw [if_pos c36] at H
                              have c36b0 : decide (t136 ≤ t137) = true := decide_eq_true c36
                              clear c36
                              by_cases c37 : t149 < x9_1
                              · rw [if_pos c37] at H
                                have c37b0 : decide (t149 < x9_1) = true := decide_eq_true c37
                                clear c37
                                as_aux_lemma =>
                                  obtain rfl := Option.some.inj H
                                  go_wp2
                                  go_ret
                                  exact ⟨by first | rfl | (simp [errW_none, errW_some] <;> rfl) | (simp only [← hji28, ← hji30]; first | rfl | (simp [errW_none, errW_some] <;> rfl)) | (simp [*, errW_none, errW_some] <;> rfl), by repeat (first | (with_reducible first | exact HB.out | apply below_alloc | apply pw_below_drewN | apply below_drew1) | exact HB.out)⟩
                              · rw [if_neg c37] at H
                                have c37b0 : decide (t149 < x9_1) = false := decide_eq_false c37
                                clear c37
                                by_cases c38 : t136 ≥ t137
                                · rw [if_pos c38] at H
                                  have c38b0 : decide (t137 ≤ t136) = true := decide_eq_true c38
                                  clear c38
                                  by_cases c39 : t149 > x9_1
                                  · rw [if_pos c39] at H
                                    have c39b0 : decide (x9_1 < t149) = true := decide_eq_true c39
                                    clear c39
                                    as_aux_lemma =>
                                      obtain rfl := Option.some.inj H
                                      go_wp2
                                      go_ret
                                      exact ⟨by first | rfl | (simp [errW_none, errW_some] <;> rfl) | (simp only [← hji28, ← hji30]; first | rfl | (simp [errW_none, errW_some] <;> rfl)) | (simp [*, errW_none, errW_some] <;> rfl), by repeat (first | (with_reducible first | exact HB.out | apply below_alloc | apply pw_below_drewN | apply below_drew1) | exact HB.out)⟩
                                  · rw [if_neg c39] at H
                                    have c39b0 : decide (x9_1 < t149) = false := decide_eq_false c39
                                    clear c39
                                    as_aux_lemma =>
                                      have H' := Aside0.mk H
                                      clear H
                                      go_wp2
                                      go_roundg kj14
                                      case measure => have := HK1.out; have := HJ14.out; omega
                                      case rel => exact ⟨(t149), (wrap64 (x10_1 + 1)), (by first | rfl | (simp; done) | (simp [*]; done)), (by first | rfl | (simp; done) | (simp [*]; done)), H', ⟨by have := HK1.out; have := HJ14.out; omega⟩, ⟨by repeat (first | (with_reducible first | exact HB.out | apply below_alloc | apply pw_below_drewN | apply below_drew1) | exact HB.out)⟩⟩
                                · rw [if_neg c38] at H
                                  have c38b0 : decide (t137 ≤ t136) = false := decide_eq_false c38
                                  clear c38
                                  as_aux_lemma =>
                                    have H' := Aside0.mk H
                                    clear H
                                    go_wp2
                                    go_roundg kj14
                                    case measure => have := HK1.out; have := HJ14.out; omega
                                    case rel => exact ⟨(t149), (wrap64 (x10_1 + 1)), (by first | rfl | (simp; done) | (simp [*]; done)), (by first | rfl | (simp; done) | (simp [*]; done)), H', ⟨by have := HK1.out; have := HJ14.out; omega⟩, ⟨by repeat (first | (with_reducible first | exact HB.out | apply below_alloc | apply pw_below_drewN | apply below_drew1) | exact HB.out)⟩⟩
                            · rw [if_neg c36] at H
                              have c36b0 : decide (t136 ≤ t137) = false := decide_eq_false c36
                              clear c36
                              by_cases c40 : t136 ≥ t137
                              · rw [if_pos c40] at H
                                have c40b0 : decide (t137 ≤ t136) = true := decide_eq_true c40
                                clear c40
                                by_cases c41 : t149 > x9_1
                                · rw [if_pos c41] at H
                                  have c41b0 : decide (x9_1 < t149) = true := decide_eq_true c41
                                  clear c41
                                  as_aux_lemma =>
                                    obtain rfl := Option.some.inj H
                                    go_wp2
                                    go_ret
                                    exact ⟨by first | rfl | (simp [errW_none, errW_some] <;> rfl) | (simp only [← hji28, ← hji30]; first | rfl | (simp [errW_none, errW_some] <;> rfl)) | (simp [*, errW_none, errW_some] <;> rfl), by repeat (first | (with_reducible first | exact HB.out | apply below_alloc | apply pw_below_drewN | apply below_drew1) | exact HB.out)⟩
                                · rw [if_neg c41] at H
                                  have c41b0 : decide (x9_1 < t149) = false := decide_eq_false c41
                                  clear c41
                                  as_aux_lemma =>
                                    have H' := Aside0.mk H
                                    clear H
                                    go_wp2
                                    go_roundg kj14
                                    case measure => have := HK1.out; have := HJ14.out; omega
                                    case rel => exact ⟨(t149), (wrap64 (x10_1 + 1)), (by first | rfl | (simp; done) | (simp [*]; done)), (by first | rfl | (simp; done) | (simp [*]; done)), H', ⟨by have := HK1.out; have := HJ14.out; omega⟩, ⟨by repeat (first | (with_reducible first | exact HB.out | apply below_alloc | apply pw_below_drewN | apply below_drew1) | exact HB.out)⟩⟩
                              · rw [if_neg c40] at H
                                have c40b0 : decide (t137 ≤ t136) = false := decide_eq_false c40
                                clear c40
                                as_aux_lemma =>
                                  have H' := Aside0.mk H
                                  clear H
                                  go_wp2
                                  go_roundg kj14
                                  case measure => have := HK1.out; have := HJ14.out; omega
                                  case rel => exact ⟨(t149), (wrap64 (x10_1 + 1)), (by first | rfl | (simp; done) | (simp [*]; done)), (by first | rfl | (simp; done) | (simp [*]; done)), H', ⟨by have := HK1.out; have := HJ14.out; omega⟩, ⟨by repeat (first | (with_reducible first | exact HB.out | apply below_alloc | apply pw_below_drewN | apply below_drew1) | exact HB.out)⟩⟩
                          · rw [if_neg c35] at H
                            have c35b0 : (t149 == t137) = false := beq_eq_false_iff_ne.mpr c35
                            have c35b1 : (t149 != t137) = true := bne_iff_ne.mpr c35
                            as_aux_lemma =>
                              obtain rfl := Option.some.inj H
                              go_wp2
                              go_ret
                              exact ⟨by first | rfl | (simp [errW_none, errW_some] <;> rfl) | (simp only [← hji28, ← hji30]; first | rfl | (simp [errW_none, errW_some] <;> rfl)) | (simp [*, errW_none, errW_some] <;> rfl), by repeat (first | (with_reducible first | exact HB.out | apply below_alloc | apply pw_below_drewN | apply below_drew1) | exact HB.out)⟩
                        · rw [if_neg c34] at H
                          have c34b0 : (x10_1 == (wrap64 (1 + t135))) = false := beq_eq_false_iff_ne.mpr c34
                          have c34b1 : (x10_1 != (wrap64 (1 + t135))) = true := bne_iff_ne.mpr c34
                          by_cases c42 : t136 ≤ t137
                          · rw [if_pos c42] at H
                            have c42b0 : decide (t136 ≤ t137) = true := decide_eq_true c42
                            clear c42
                            by_cases c43 : t149 < x9_1
                            · rw [if_pos c43] at H
                              have c43b0 : decide (t149 < x9_1) = true := decide_eq_true c43
                              clear c43
                              as_aux_lemma =>
                                obtain rfl := Option.some.inj H
                                go_wp2
                                go_ret
                                exact ⟨by first | rfl | (simp [errW_none, errW_some] <;> rfl) | (simp only [← hji28, ← hji30]; first | rfl | (simp [errW_none, errW_some] <;> rfl)) | (simp [*, errW_none, errW_some] <;> rfl), by repeat (first | (with_reducible first | exact HB.out | apply below_alloc | apply pw_below_drewN | apply below_drew1) | exact HB.out)⟩
                            · rw [if_neg c43] at H
                              have c43b0 : decide (t149 < x9_1) = false := decide_eq_false c43
                              clear c43
                              by_cases c44 : t136 ≥ t137
                              · rw [if_pos c44] at H
                                have c44b0 : decide (t137 ≤ t136) = true := decide_eq_true c44
                                clear c44
                                by_cases c45 : t149 > x9_1
                                · rw [if_pos c45] at H
                                  have c45b0 : decide (x9_1 < t149) = true := decide_eq_true c45
                                  clear c45
                                  as_aux_lemma =>
                                    obtain rfl := Option.some.inj H
                                    go_wp2
                                    go_ret
                                    exact ⟨by first | rfl | (simp [errW_none, errW_some] <;> rfl) | (simp only [← hji28, ← hji30]; first | rfl | (simp [errW_none, errW_some] <;> rfl)) | (simp [*, errW_none, errW_some] <;> rfl), by repeat (first | (with_reducible first | exact HB.out | apply below_alloc | apply pw_below_drewN | apply below_drew1) | exact HB.out)⟩
                                · rw [if_neg c45] at H
                                  have c45b0 : decide (x9_1 < t149) = false := decide_eq_false c45
                                  clear c45
                                  as_aux_lemma =>
                                    have H' := Aside0.mk H
                                    clear H
                                    go_wp2
                                    go_roundg kj14
                                    case measure => have := HK1.out; have := HJ14.out; omega
                                    case rel => exact ⟨(t149), (wrap64 (x10_1 + 1)), (by first | rfl | (simp; done) | (simp [*]; done)), (by first | rfl | (simp; done) | (simp [*]; done)), H', ⟨by have := HK1.out; have := HJ14.out; omega⟩, ⟨by repeat (first | (with_reducible first | exact HB.out | apply below_alloc | apply pw_below_drewN | apply below_drew1) | exact HB.out)⟩⟩
                              · rw [if_neg c44] at H
                                have c44b0 : decide (t137 ≤ t136) = false := decide_eq_false c44
                                clear c44
                                as_aux_lemma =>
                                  have H' := Aside0.mk H
                                  clear H
                                  go_wp2
                                  go_roundg kj14
                                  case measure => have := HK1.out; have := HJ14.out; omega
                                  case rel => exact ⟨(t149), (wrap64 (x10_1 + 1)), (by first | rfl | (simp; done) | (simp [*]; done)), (by first | rfl | (simp; done) | (simp [*]; done)), H', ⟨by have := HK1.out; have := HJ14.out; omega⟩, ⟨by repeat (first | (with_reducible first | exact HB.out | apply below_alloc | apply pw_below_drewN | apply below_drew1) | exact HB.out)⟩⟩
                          · rw [if_neg c42] at H
                            have c42b0 : decide (t136 ≤ t137) = false := decide_eq_false c42
                            clear c42
                            by_cases c46 : t136 ≥ t137
                            · rw [if_pos c46] at H
                              have c46b0 : decide (t137 ≤ t136) = true := decide_eq_true c46
                              clear c46
                              by_cases c47 : t149 > x9_1
                              · rw [if_pos c47] at H
                                have c47b0 : decide (x9_1 < t149) = true := decide_eq_true c47
                                clear c47
                                as_aux_lemma =>
                                  obtain rfl := Option.some.inj H
                                  go_wp2
                                  go_ret
                                  exact ⟨by first | rfl | (simp [errW_none, errW_some] <;> rfl) | (simp only [← hji28, ← hji30]; first | rfl | (simp [errW_none, errW_some] <;> rfl)) | (simp [*, errW_none, errW_some] <;> rfl), by repeat (first | (with_reducible first | exact HB.out | apply below_alloc | apply pw_below_drewN | apply below_drew1) | exact HB.out)⟩
                              · rw [if_neg c47] at H
                                have c47b0 : decide (x9_1 < t149) = false := decide_eq_false c47
                                clear c47
                                as_aux_lemma =>
                                  have H' := Aside0.mk H
                                  clear H
                                  go_wp2
                                  go_roundg kj14
                                  case measure => have := HK1.out; have := HJ14.out; omega
                                  case rel => exact ⟨(t149), (wrap64 (x10_1 + 1)), (by first | rfl | (simp; done) | (simp [*]; done)), (by first | rfl | (simp; done) | (simp [*]; done)), H', ⟨by have := HK1.out; have := HJ14.out; omega⟩, ⟨by repeat (first | (with_reducible first | exact HB.out | apply below_alloc | apply pw_below_drewN | apply below_drew1) | exact HB.out)⟩⟩
                            · rw [if_neg c46] at H
                              have c46b0 : decide (t137 ≤ t136) = false := decide_eq_false c46
                              clear c46
                              as_aux_lemma =>
                                have H' := Aside0.mk H
                                clear H
                                go_wp2
                                go_roundg kj14
                                case measure => have := HK1.out; have := HJ14.out; omega
                                case rel => exact ⟨(t149), (wrap64 (x10_1 + 1)), (by first | rfl | (simp; done) | (simp [*]; done)), (by first | rfl | (simp; done) | (simp [*]; done)), H', ⟨by have := HK1.out; have := HJ14.out; omega⟩, ⟨by repeat (first | (with_reducible first | exact HB.out | apply below_alloc | apply pw_below_drewN | apply below_drew1) | exact HB.out)⟩⟩
                      · rw [if_neg c33] at H
                        have c33b0 : (t149 == t136) = false := beq_eq_false_iff_ne.mpr c33
                        have c33b1 : (t149 != t136) = true := bne_iff_ne.mpr c33
                        as_aux_lemma =>
                          obtain rfl := Option.some.inj H
                          go_wp2
                          go_ret
                          exact ⟨by first | rfl | (simp [errW_none, errW_some] <;> rfl) | (simp only [← hji28, ← hji30]; first | rfl | (simp [errW_none, errW_some] <;> rfl)) | (simp [*, errW_none, errW_some] <;> rfl), by repeat (first | (with_reducible first | exact HB.out | apply below_alloc | apply pw_below_drewN | apply below_drew1) | exact HB.out)⟩
                    · rw [if_neg c32] at H
                      have c32b0 : (x10_1 == 0) = false := beq_eq_false_iff_ne.mpr c32
                      have c32b1 : (x10_1 != 0) = true := bne_iff_ne.mpr c32
                      by_cases c48 : x10_1 = (wrap64 (1 + t135))
                      · rw [if_pos c48] at H
                        have c48b0 : (x10_1 == (wrap64 (1 + t135))) = true := beq_iff_eq.mpr c48
                        have c48b1 : (x10_1 != (wrap64 (1 + t135))) = false := bne_eq_false_iff_eq.mpr c48
                        clear c48
                        by_cases c49 : t149 = t137
                        · rw [if_pos c49] at H
                          have c49b0 : (t149 == t137) = true := beq_iff_eq.mpr c49
                          have c49b1 : (t149 != t137) = false := bne_eq_false_iff_eq.mpr c49
                          clear c49
                          by_cases c50 : t136 ≤ t137
                          · rw [if_pos c50] at H
                            have c50b0 : decide (t136 ≤ t137) = true := decide_eq_true c50
                            clear c50
                            by_cases c51 : t149 < x9_1
                            · rw [if_pos c51] at H
                              have c51b0 : decide (t149 < x9_1) = true := decide_eq_true c51
                              clear c51
                              as_aux_lemma =>
                                obtain rfl := Option.some.inj H
                                go_wp2
                                go_ret
                                exact ⟨by first | rfl | (simp [errW_none, errW_some] <;> rfl) | (simp only [← hji28, ← hji30]; first | rfl | (simp [errW_none, errW_some] <;> rfl)) | (simp [*, errW_none, errW_some] <;> rfl), by repeat (first | (with_reducible first | exact HB.out | apply below_alloc | apply pw_below_drewN | apply below_drew1) | exact HB.out)⟩
                            · rw [if_neg c51] at H
                              have c51b0 : decide (t149 < x9_1) = false := decide_eq_false c51
                              clear c51
                              by_cases c52 : t136 ≥ t137
                              · rw [if_pos c52] at H
                                have c52b0 : decide (t137 ≤ t136) = true := decide_eq_true c52
                                clear c52
                                by_cases c53 : t149 > x9_1
                                · rw [if_pos c53] at H
                                  have c53b0 : decide (x9_1 < t149) = true := decide_eq_true c53
                                  clear c53
                                  as_aux_lemma =>
                                    obtain rfl := Option.some.inj H
                                    go_wp2
                                    go_ret
                                    exact ⟨by first | rfl | (simp [errW_none, errW_some] <;> rfl) | (simp only [← hji28, ← hji30]; first | rfl | (simp [errW_none, errW_some] <;> rfl)) | (simp [*, errW_none, errW_some] <;> rfl), by repeat (first | (with_reducible first | exact HB.out | apply below_alloc | apply pw_below_drewN | apply below_drew1) | exact HB.out)⟩
                                · rw [if_neg c53] at H
                                  have c53b0 : decide (x9_1 < t149) = false := decide_eq_false c53
                                  clear c53
                                  as_aux_lemma =>
                                    have H' := Aside0.mk H
                                    clear H
                                    go_wp2
                                    go_roundg kj14
                                    case measure => have := HK1.out; have := HJ14.out; omega
                                    case rel => exact ⟨(t149), (wrap64 (x10_1 + 1)), (by first | rfl | (simp; done) | (simp [*]; done)), (by first | rfl | (simp; done) | (simp [*]; done)), H', ⟨by have := HK1.out; have := HJ14.out; omega⟩, ⟨by repeat (first | (with_reducible first | exact HB.out | apply below_alloc | apply pw_below_drewN | apply below_drew1) | exact HB.out)⟩⟩
                              · rw [if_neg c52] at H
                                have c52b0 : decide (t137 ≤ t136) = false := decide_eq_false c52
                                clear c52
                                as_aux_lemma =>
                                  have H' := Aside0.mk H
                                  clear H
                                  go_wp2
                                  go_roundg kj14
                                  case measure => have := HK1.out; have := HJ14.out; omega
                                  case rel => exact ⟨(t149), (wrap64 (x10_1 + 1)), (by first | rfl | (simp; done) | (simp [*]; done)), (by first | rfl | (simp; done) | (simp [*]; done)), H', ⟨by have := HK1.out; have := HJ14.out; omega⟩, ⟨by repeat (first | (with_reducible first | exact HB.out | apply below_alloc | apply pw_below_drewN | apply below_drew1) | exact HB.out)⟩⟩
                          · rw [if_neg c50] at H
                            have c50b0 : decide (t136 ≤ t137) = false := decide_eq_false c50
                            clear c50
                            by_cases c54 : t136 ≥ t137
                            · rw [if_pos c54] at H
                              have c54b0 : decide (t137 ≤ t136) = true := decide_eq_true c54
                              clear c54
                              by_cases c55 : t149 > x9_1
                              · rw [if_pos c55] at H
                                have c55b0 : decide (x9_1 < t149) = true := decide_eq_true c55
                                clear c55
                                as_aux_lemma =>
                                  obtain rfl := Option.some.inj H
                                  go_wp2
                                  go_ret
                                  exact ⟨by first | rfl | (simp [errW_none, errW_some] <;> rfl) | (simp only [← hji28, ← hji30]; first | rfl | (simp [errW_none, errW_some] <;> rfl)) | (simp [*, errW_none, errW_some] <;> rfl), by repeat (first | (with_reducible first | exact HB.out | apply below_alloc | apply pw_below_drewN | apply below_drew1) | exact HB.out)⟩
                              · rw [if_neg c55] at H
                                have c55b0 : decide (x9_1 < t149) = false := decide_eq_false c55
                                clear c55
                                as_aux_lemma =>
                                  have H' := Aside0.mk H
                                  clear H
                                  go_wp2
                                  go_roundg kj14
                                  case measure => have := HK1.out; have := HJ14.out; omega
                                  case rel => exact ⟨(t149), (wrap64 (x10_1 + 1)), (by first | rfl | (simp; done) | (simp [*]; done)), (by first | rfl | (simp; done) | (simp [*]; done)), H', ⟨by have := HK1.out; have := HJ14.out; omega⟩, ⟨by repeat (first | (with_reducible first | exact HB.out | apply below_alloc | apply pw_below_drewN | apply below_drew1) | exact HB.out)⟩⟩
                            · rw [if_neg c54] at H
                              have c54b0 : decide (t137 ≤ t136) = false := decide_eq_false c54
                              clear c54
                              as_aux_lemma =>
                                have H' := Aside0.mk H
                                clear H
                                go_wp2
                                go_roundg kj14
                                case measure => have := HK1.out; have := HJ14.out; omega
                                case rel => exact ⟨(t149), (wrap64 (x10_1 + 1)), (by first | rfl | (simp; done) | (simp [*]; done)), (by first | rfl | (simp; done) | (simp [*]; done)), H', ⟨by have := HK1.out; have := HJ14.out; omega⟩, ⟨by repeat (first | (with_reducible first | exact HB.out | apply below_alloc | apply pw_below_drewN | apply below_drew1) | exact HB.out)⟩⟩
                        · rw [if_neg c49] at H
                          have c49b0 : (t149 == t137) = false := beq_eq_false_iff_ne.mpr c49
                          have c49b1 : (t149 != t137) = true := bne_iff_ne.mpr c49
                          as_aux_lemma =>
                            obtain rfl := Option.some.inj H
                            go_wp2
                            go_ret
                            exact ⟨by first | rfl | (simp [errW_none, errW_some] <;> rfl) | (simp only [← hji28, ← hji30]; first | rfl | (simp [errW_none, errW_some] <;> rfl)) | (simp [*, errW_none, errW_some] <;> rfl), by repeat (first | (with_reducible first | exact HB.out | apply below_alloc | apply pw_below_drewN | apply below_drew1) | exact HB.out)⟩
                      · rw [if_neg c48] at H
                        have c48b0 : (x10_1 == (wrap64 (1 + t135))) = false := beq_eq_false_iff_ne.mpr c48
                        have c48b1 : (x10_1 != (wrap64 (1 + t135))) = true := bne_iff_ne.mpr c48
                        by_cases c56 : t136 ≤ t137
                        · rw [if_pos c56] at H
                          have c56b0 : decide (t136 ≤ t137) = true := decide_eq_true c56
                          clear c56
                          by_cases c57 : t149 < x9_1
                          · rw [if_pos c57] at H
                            have c57b0 : decide (t149 < x9_1) = true := decide_eq_true c57
                            clear c57
                            as_aux_lemma =>
                              obtain rfl := Option.some.inj H
                              go_wp2
                              go_ret
                              exact ⟨by first | rfl | (simp [errW_none, errW_some] <;> rfl) | (simp only [← hji28, ← hji30]; first | rfl | (simp [errW_none, errW_some] <;> rfl)) | (simp [*, errW_none, errW_some] <;> rfl), by repeat (first | (with_reducible first | exact HB.out | apply below_alloc | apply pw_below_drewN | apply below_drew1) | exact HB.out)⟩
                          · rw [if_neg c57] at H
                            have c57b0 : decide (t149 < x9_1) = false := decide_eq_false c57
                            clear c57
                            by_cases c58 : t136 ≥ t137
                            · rw [if_pos c58] at H
                              have c58b0 : decide (t137 ≤ t136) = true := decide_eq_true c58
                              clear c58
                              by_cases c59 : t149 > x9_1
                              · rw [if_pos c59] at H
                                have c59b0 : decide (x9_1 < t149) = true := decide_eq_true c59
                                clear c59
                                as_aux_lemma =>
                                  obtain rfl := Option.some.inj H
                                  go_wp2
                                  go_ret
                                  exact ⟨by first | rfl | (simp [errW_none, errW_some] <;> rfl) | (simp only [← hji28, ← hji30]; first | rfl | (simp [errW_none, errW_some] <;> rfl)) | (simp [*, errW_none, errW_some] <;> rfl), by repeat (first | (with_reducible first | exact HB.out | apply below_alloc | apply pw_below_drewN | apply below_drew1) | exact HB.out)⟩
                              · rw [if_neg c59] at H
                                have c59b0 : decide (x9_1 < t149) = false := decide_eq_false c59
                                clear c59
                                as_aux_lemma =>
                                  have H' := Aside0.mk H
                                  clear H
                                  go_wp2
                                  go_roundg kj14
                                  case measure => have := HK1.out; have := HJ14.out; omega
                                  case rel => exact ⟨(t149), (wrap64 (x10_1 + 1)), (by first | rfl | (simp; done) | (simp [*]; done)), (by first | rfl | (simp; done) | (simp [*]; done)), H', ⟨by have := HK1.out; have := HJ14.out; omega⟩, ⟨by repeat (first | (with_reducible first | exact HB.out | apply below_alloc | apply pw_below_drewN | apply below_drew1) | exact HB.out)⟩⟩
                            · rw [if_neg c58] at H
                              have c58b0 : decide (t137 ≤ t136) = false := decide_eq_false c58
                              clear c58
                              as_aux_lemma =>
                                have H' := Aside0.mk H
                                clear H
                                go_wp2
                                go_roundg kj14
                                case measure => have := HK1.out; have := HJ14.out; omega
                                case rel => exact ⟨(t149), (wrap64 (x10_1 + 1)), (by first | rfl | (simp; done) | (simp [*]; done)), (by first | rfl | (simp; done) | (simp [*]; done)), H', ⟨by have := HK1.out; have := HJ14.out; omega⟩, ⟨by repeat (first | (with_reducible first | exact HB.out | apply below_alloc | apply pw_below_drewN | apply below_drew1) | exact HB.out)⟩⟩
                        · rw [if_neg c56] at H
                          have c56b0 : decide (t136 ≤ t137) = false := decide_eq_false c56
                          clear c56
                          by_cases c60 : t136 ≥ t137
                          · rw [if_pos c60] at H
                            have c60b0 : decide (t137 ≤ t136) = true := decide_eq_true c60
                            clear c60
                            by_cases c61 : t149 > x9_1
                            · rw [if_pos c61] at H
                              have c61b0 : decide (x9_1 < t149) = true := decide_eq_true c61
                              clear c61
                              as_aux_lemma =>
                                obtain rfl := Option.some.inj H
                                go_wp2
                                go_ret
                                exact ⟨by first | rfl | (simp [errW_none, errW_some] <;> rfl) | (simp only [← hji28, ← hji30]; first | rfl | (simp [errW_none, errW_some] <;> rfl)) | (simp [*, errW_none, errW_some] <;> rfl), by repeat (first | (with_reducible first | exact HB.out | apply below_alloc | apply pw_below_drewN | apply below_drew1) | exact HB.out)⟩
                            · rw [if_neg c61] at H
                              have c61b0 : decide (x9_1 < t149) = false := decide_eq_false c61
                              clear c61
                              as_aux_lemma =>
                                have H' := Aside0.mk H
                                clear H
                                go_wp2
                                go_roundg kj14
                                case measure => have := HK1.out; have := HJ14.out; omega
                                case rel => exact ⟨(t149), (wrap64 (x10_1 + 1)), (by first | rfl | (simp; done) | (simp [*]; done)), (by first | rfl | (simp; done) | (simp [*]; done)), H', ⟨by have := HK1.out; have := HJ14.out; omega⟩, ⟨by repeat (first | (with_reducible first | exact HB.out | apply below_alloc | apply pw_below_drewN | apply below_drew1) | exact HB.out)⟩⟩
                          · rw [if_neg c60] at H
                            have c60b0 : decide (t137 ≤ t136) = false := decide_eq_false c60
                            clear c60
                            as_aux_lemma =>
                              have H' := Aside0.mk H
                              clear H
                              go_wp2
                              go_roundg kj14
                              case measure => have := HK1.out; have := HJ14.out; omega
                              case rel => exact ⟨(t149), (wrap64 (x10_1 + 1)), (by first | rfl | (simp; done) | (simp [*]; done)), (by first | rfl | (simp; done) | (simp [*]; done)), H', ⟨by have := HK1.out; have := HJ14.out; omega⟩, ⟨by repeat (first | (with_reducible first | exact HB.out | apply below_alloc | apply pw_below_drewN | apply below_drew1) | exact HB.out)⟩⟩
        · rw [if_neg c9] at H
          have c9b0 : decide (x10_1 ≤ (wrap64 (1 + t135))) = false := decide_eq_false c9
          clear c9
          replace H := Option.bind_eq_some_iff.mp H
          obtain ⟨⟨t138, t139, t140⟩, A620, H⟩ := H
          replace H : (some (t140 == 2)) = some r := H
          have A62 := Aside0.mk A620
          clear A620
          as_aux_lemma =>
            obtain rfl := Option.some.inj H
            go_wp2_with (first | ((with_reducible refine gate_callee (f := 54) rfl ?_); refine goesL_ (some 199) rfl rfl Try.func54 (by kernel_rfl) rfl #[.int .i64 t134, .int .i64 (wrap64 ((wrap64 (1 + t135)) + 1)), .int .i64 (wrap64 (1 + t135))] rfl (by (try simp only [List.map_toArray, List.map_cons, List.map_nil]); first | done | rfl | (simp only [List.length_drop, List.length_take]; rfl)) ?_; (with_reducible refine (impl_ShapeOf.calls t134 (wrap64 ((wrap64 (1 + t135)) + 1)) (wrap64 (1 + t135)) t138 t139 t140 _ A62.out).mono ?_); rintro e w' ⟨rfl, ⟨nd, rfl⟩⟩; refine ⟨_, rfl, ?_⟩))
            go_ret
            exact ⟨by first | rfl | (simp [errW_none, errW_some] <;> rfl) | (simp [*, errW_none, errW_some] <;> rfl), by repeat (first | (with_reducible first | exact HB.out | apply below_alloc | apply pw_below_drewN | apply below_drew1) | exact HB.out)⟩

/-- THE ONE PURE STATEMENT of laws_FnShapes: yours. -/
def laws_FnShapes.Pure : Prop := ∀ (l0 : List Int) (l1 : List Int), l0.length ≤ maxLen → l0.length * 1 ≤ 140737488351232 → (∀ x ∈ l0, (Lit.int .u8 x).wf = true) → l1.length ≤ maxLen → l1.length * 1 ≤ 140737488351232 → (∀ x ∈ l1, (Lit.int .u8 x).wf = true) → ∃ k, laws_FnShapes.f k l0 l1 = some true
theorem laws_FnShapes.walk (P : laws_FnShapes.Pure) (a0 : Option Addr) (len0 cap0 : Nat) (z0 : List Int) (a1 : Option Addr) (len1 cap1 : Nat) (z1 : List Int) (w : World) (w0 : (a0 = none ∧ len0 = 0 ∧ cap0 = 0 ∧ z0 = []) ∨ ∃ x, a0 = some x ∧ len0 ≤ cap0 ∧ cap0 ≤ maxLen ∧ z0.length = cap0 ∧ (∀ i, i < z0.length → w.cell? (x.add i) = some (.int .u8 (z0.getD i 0))) ∧ ∀ n ∈ z0, (Lit.int .u8 n).wf = true) (y0 : len0 * 1 ≤ 140737488351232) (w1 : (a1 = none ∧ len1 = 0 ∧ cap1 = 0 ∧ z1 = []) ∨ ∃ x, a1 = some x ∧ len1 ≤ cap1 ∧ cap1 ≤ maxLen ∧ z1.length = cap1 ∧ (∀ i, i < z1.length → w.cell? (x.add i) = some (.int .u8 (z1.getD i 0))) ∧ ∀ n ∈ z1, (Lit.int .u8 n).wf = true) (y1 : len1 * 1 ≤ 140737488351232) :
    Calls Try.prog 14 #[.slice a0 len0 cap0, .slice a1 len1 cap1] w fun e w' => e = .returned (.bool true) ∧ Below w.heap.size w w' := by
  obtain ⟨l0, rfl, hr0, hm0, hw0, hc0⟩ := ReadsInt.ofRowC w0
  obtain ⟨l1, rfl, hr1, hm1, hw1, hc1⟩ := ReadsInt.ofRowC w1
  obtain ⟨k, h⟩ := P l0 l1 hm0 y0 hw0 hm1 y1 hw1
  refine (laws_FnShapes.calls k _ _ l0 _ _ l1 true w (Kd.C_of_reads (d := (0 : Int)) (h1 := fun _ => rfl) hr0) hc0 (Kd.C_of_reads (d := (0 : Int)) (h1 := fun _ => rfl) hr1) hc1 h).mono ?_
  rintro e w' ⟨rfl, hd⟩
  exact ⟨rfl, hd⟩

end Go.Proofs.Ytobngbphmhggkaa.FFnShapes
