-- Written by fvprint.py, a program of this session over the kit's print. Not trusted: Lean checks it.
import Derived.Test.YtkjjmelhnbjoeaaFFnWheelsx0
import Derived.Test.YtkjjmelhnbjoeaaFFnWheelsx1
import Derived.Test.YtkjjmelhnbjoeaaFFnWheelsx2
namespace Go.Proofs.Ytkjjmelhnbjoeaa.FFnWheels
open Go.RowKit Go.Proofs.YtkjjmelhnbjoeaaW.PrintWords Go.Proofs.YtkjjmelhnbjoeaaW.PrintLast Go.Proofs.YtkjjmelhnbjoeaaW.PrintMore
attribute [local go_sem] max2_int min2_int max_two min_two max_three min_three max_four min_four   -- for this text's walks alone
set_option linter.unusedVariables false
set_option linter.unusedSimpArgs false

/-! ### spec_NearestWheels: function 32 -/
mutual
def spec_NearestWheels.j0 : Nat → Int → Int → Int → Bool → Option (Int × Int × Int)
  | 0, _, _, _, _ => none
  | k + 1, x0, x1, x2, x26 => if x26 = true then (some (0, 0, 2)) else (spec_NearestWheels.l0 k x0 x1 x2 0 0 16)
def spec_NearestWheels.l0 : Nat → Int → Int → Int → Int → Int → Int → Option (Int × Int × Int)
  | 0, _, _, _, _, _, _ => none
  | k + 1, x0, x1, x2, x9, x10, x11 => if x11 ≤ (wrap64 (2 * x2)) then (spec_NearestWheels.l1 k x0 x1 x2 x9 x10 x11 8) else (some (x9, x10, 0))
def spec_NearestWheels.l1 : Nat → Int → Int → Int → Int → Int → Int → Int → Option (Int × Int × Int)
  | 0, _, _, _, _, _, _, _ => none
  | k + 1, x0, x1, x2, x9, x10, x11, x12 => if x12 ≤ x2 then ((spec_l00In.f (wrap64 (x11 - x12)) 8 x2).bind fun t135 => (if t135 = true then (if x10 = 0 then (spec_NearestWheels.l1 k x0 x1 x2 x12 (wrap64 (x11 - x12)) x11 (wrap64 (x12 + 1))) else ((spec_l01Size.f (wrap64 ((wrap64 (x12 * x1)) - (wrap64 (x0 * (wrap64 (x11 - x12))))))).bind fun t136 => ((spec_l01Size.f (wrap64 ((wrap64 (x9 * x1)) - (wrap64 (x0 * x10))))).bind fun t137 => (if (wrap64 (t136 * x10)) < (wrap64 (t137 * (wrap64 (x11 - x12)))) then (spec_NearestWheels.l1 k x0 x1 x2 x12 (wrap64 (x11 - x12)) x11 (wrap64 (x12 + 1))) else (spec_NearestWheels.l1 k x0 x1 x2 x9 x10 x11 (wrap64 (x12 + 1))))))) else (spec_NearestWheels.l1 k x0 x1 x2 x9 x10 x11 (wrap64 (x12 + 1))))) else (spec_NearestWheels.l0 k x0 x1 x2 x9 x10 (wrap64 (x11 + 1)))
end
def spec_NearestWheels.f (k : Nat) (a0 : Int) (a1 : Int) (a2 : Int) : Option (Int × Int × Int) := (spec_l00In.f a0 1 1000).bind fun t132 => (if t132 = true then ((spec_l00In.f a1 1 1000).bind fun t133 => (if t133 = true then ((spec_l00In.f a2 8 120).bind fun t134 => (spec_NearestWheels.j0 k a0 a1 a2 (!t134))) else (spec_NearestWheels.j0 k a0 a1 a2 true))) else (spec_NearestWheels.j0 k a0 a1 a2 true))
theorem spec_NearestWheels.mono_l : ∀ k, (∀ y0 y1 y2 y3, LeO (spec_NearestWheels.j0 k y0 y1 y2 y3) (spec_NearestWheels.j0 (k + 1) y0 y1 y2 y3)) ∧ (∀ y0 y1 y2 y3 y4 y5, LeO (spec_NearestWheels.l0 k y0 y1 y2 y3 y4 y5) (spec_NearestWheels.l0 (k + 1) y0 y1 y2 y3 y4 y5)) ∧ (∀ y0 y1 y2 y3 y4 y5 y6, LeO (spec_NearestWheels.l1 k y0 y1 y2 y3 y4 y5 y6) (spec_NearestWheels.l1 (k + 1) y0 y1 y2 y3 y4 y5 y6))
  | 0 => ⟨fun _ _ _ _ r h => by simp [spec_NearestWheels.j0] at h, fun _ _ _ _ _ _ r h => by simp [spec_NearestWheels.l0] at h, fun _ _ _ _ _ _ _ r h => by simp [spec_NearestWheels.l1] at h⟩
  | k + 1 => by
    obtain ⟨ih0, ih1, ih2⟩ := spec_NearestWheels.mono_l k
    refine ⟨?_, ?_, ?_⟩
    · intro y0 y1 y2 y3
      unfold spec_NearestWheels.j0
      repeat' first
      | (with_reducible exact ih0 _ _ _ _)
      | (with_reducible exact ih1 _ _ _ _ _ _)
      | (with_reducible exact ih2 _ _ _ _ _ _ _)
      | (with_reducible exact LeO.refl _)
      | (with_reducible exact LeO.none _)
      | (with_reducible refine LeO.ite ?_ ?_)
      | (with_reducible refine LeO.bind ?_ (fun _ => ?_))
      | exact ih0 _ _ _ _
      | exact ih1 _ _ _ _ _ _
      | exact ih2 _ _ _ _ _ _ _
      | exact LeO.none _
      | refine LeO.ite ?_ ?_
      | refine LeO.bind ?_ (fun _ => ?_)
    · intro y0 y1 y2 y3 y4 y5
      unfold spec_NearestWheels.l0
      repeat' first
      | (with_reducible exact ih0 _ _ _ _)
      | (with_reducible exact ih1 _ _ _ _ _ _)
      | (with_reducible exact ih2 _ _ _ _ _ _ _)
      | (with_reducible exact LeO.refl _)
      | (with_reducible exact LeO.none _)
      | (with_reducible refine LeO.ite ?_ ?_)
      | (with_reducible refine LeO.bind ?_ (fun _ => ?_))
      | exact ih0 _ _ _ _
      | exact ih1 _ _ _ _ _ _
      | exact ih2 _ _ _ _ _ _ _
      | exact LeO.none _
      | refine LeO.ite ?_ ?_
      | refine LeO.bind ?_ (fun _ => ?_)
    · intro y0 y1 y2 y3 y4 y5 y6
      unfold spec_NearestWheels.l1
      repeat' first
      | (with_reducible exact ih0 _ _ _ _)
      | (with_reducible exact ih1 _ _ _ _ _ _)
      | (with_reducible exact ih2 _ _ _ _ _ _ _)
      | (with_reducible exact LeO.refl _)
      | (with_reducible exact LeO.none _)
      | (with_reducible refine LeO.ite ?_ ?_)
      | (with_reducible refine LeO.bind ?_ (fun _ => ?_))
      | exact ih0 _ _ _ _
      | exact ih1 _ _ _ _ _ _
      | exact ih2 _ _ _ _ _ _ _
      | exact LeO.none _
      | refine LeO.ite ?_ ?_
      | refine LeO.bind ?_ (fun _ => ?_)
theorem spec_NearestWheels.mono : ∀ a0 a1 a2 k, LeO (spec_NearestWheels.f k a0 a1 a2) (spec_NearestWheels.f (k + 1) a0 a1 a2) := by
  intro a0 a1 a2 k
  obtain ⟨ih0, ih1, ih2⟩ := spec_NearestWheels.mono_l k
  unfold spec_NearestWheels.f
  repeat' first
      | (with_reducible exact ih0 _ _ _ _)
      | (with_reducible exact ih1 _ _ _ _ _ _)
      | (with_reducible exact ih2 _ _ _ _ _ _ _)
      | (with_reducible exact LeO.refl _)
      | (with_reducible exact LeO.none _)
      | (with_reducible refine LeO.ite ?_ ?_)
      | (with_reducible refine LeO.bind ?_ (fun _ => ?_))
      | exact ih0 _ _ _ _
      | exact ih1 _ _ _ _ _ _
      | exact ih2 _ _ _ _ _ _ _
      | exact LeO.none _
      | refine LeO.ite ?_ ?_
      | refine LeO.bind ?_ (fun _ => ?_)
set_option maxHeartbeats 8000000 in
set_option maxRecDepth 100000 in
theorem spec_NearestWheels.calls (k : Nat) (a0 : Int) (a1 : Int) (a2 : Int) (r1 : Int) (r2 : Int) (r3 : Int) (w : World) (h : spec_NearestWheels.f k a0 a1 a2 = some (r1, r2, r3)) :
    Calls Try.prog 32 #[.int .i64 a0, .int .i64 a1, .int .i64 a2] w fun e w' => e = .returned (.tuple #[.int .i64 r1, .int .i64 r2, .int .i64 r3]) ∧ Drawn0 w w' := by
  have H : ((spec_l00In.f a0 1 1000).bind fun t132 => (if t132 = true then ((spec_l00In.f a1 1 1000).bind fun t133 => (if t133 = true then ((spec_l00In.f a2 8 120).bind fun t134 => (spec_NearestWheels.j0 k a0 a1 a2 (!t134))) else (spec_NearestWheels.j0 k a0 a1 a2 true))) else (spec_NearestWheels.j0 k a0 a1 a2 true))) = some (r1, r2, r3) := h
  clear h
  have HC4 := Aside0.mk H
  clear H
  go_enter Try.func32, Try.ntmps32
  go_upto_region 1 with (fail)
  go_cut [26] (fun v26 wc => ∃ (kq : Nat) (x26_3 : Bool), v26 = .bool x26_3 ∧ Aside0 (spec_NearestWheels.j0 kq a0 a1 a2 x26_3 = some (r1, r2, r3)) ∧ Aside0 (kq ≤ k) ∧ Drawn0 w wc)
  case first =>
    have H := HC4.out
    clear HC4
    replace H := Option.bind_eq_some_iff.mp H
    obtain ⟨t132, A50, H⟩ := H
    replace H : (if t132 = true then ((spec_l00In.f a1 1 1000).bind fun t133 => (if t133 = true then ((spec_l00In.f a2 8 120).bind fun t134 => (spec_NearestWheels.j0 k a0 a1 a2 (!t134))) else (spec_NearestWheels.j0 k a0 a1 a2 true))) else (spec_NearestWheels.j0 k a0 a1 a2 true)) = some (r1, r2, r3) := H
    have A5 := Aside0.mk A50
    clear A50
    by_cases c6 : t132 = true
    · subst c6
      have H1 : ((spec_l00In.f a1 1 1000).bind fun t133 => (if t133 = true then ((spec_l00In.f a2 8 120).bind fun t134 => (spec_NearestWheels.j0 k a0 a1 a2 (!t134))) else (spec_NearestWheels.j0 k a0 a1 a2 true))) = some (r1, r2, r3) := by rw [if_pos rfl] at H; exact H
      clear H
      have H := H1
      clear H1
      replace H := Option.bind_eq_some_iff.mp H
      obtain ⟨t133, A70, H⟩ := H
      replace H : (if t133 = true then ((spec_l00In.f a2 8 120).bind fun t134 => (spec_NearestWheels.j0 k a0 a1 a2 (!t134))) else (spec_NearestWheels.j0 k a0 a1 a2 true)) = some (r1, r2, r3) := H
      have A7 := Aside0.mk A70
      clear A70
      by_cases c8 : t133 = true
      · subst c8
        have H1 : ((spec_l00In.f a2 8 120).bind fun t134 => (spec_NearestWheels.j0 k a0 a1 a2 (!t134))) = some (r1, r2, r3) := by rw [if_pos rfl] at H; exact H
        clear H
        have H := H1
        clear H1
        replace H := Option.bind_eq_some_iff.mp H
        obtain ⟨t134, A90, H⟩ := H
        replace H : (spec_NearestWheels.j0 k a0 a1 a2 (!t134)) = some (r1, r2, r3) := H
        have A9 := Aside0.mk A90
        clear A90
        as_aux_lemma =>
          have H' := Aside0.mk H
          clear H
          go_wp2_with (first | ((with_reducible refine gate_callee (f := 52) rfl ?_); refine goesL_ (some 15) rfl rfl Try.func52 (by kernel_rfl) rfl #[.int .i64 a0, .int .i64 1, .int .i64 1000] rfl (by (try simp only [List.map_toArray, List.map_cons, List.map_nil]); first | done | rfl | (simp only [List.length_drop, List.length_take]; rfl)) ?_; (with_reducible refine (spec_l00In.calls a0 1 1000 true _ A5.out).mono ?_); rintro e w' ⟨rfl, ⟨nd, rfl⟩⟩; refine ⟨_, rfl, ?_⟩) | (go_at_call 52; (with_reducible refine (spec_l00In.calls a1 1 1000 true _ A7.out).mono ?_); rintro e w' ⟨rfl, ⟨nd, rfl⟩⟩) | (go_at_call 52; (with_reducible refine (spec_l00In.calls a2 8 120 t134 _ A9.out).mono ?_); rintro e w' ⟨rfl, ⟨nd, rfl⟩⟩))
          go_meet
          case rel => exact ⟨_, (!t134), (by first | rfl | (simp; done) | (simp [*]; done)), H', ⟨by first | omega | exact Nat.le_refl _⟩, by repeat (first | exact Drawn0.refl _ | apply Drawn0.step)⟩
      · replace c8 := Bool.eq_false_iff.mpr c8
        subst c8
        have H1 : (spec_NearestWheels.j0 k a0 a1 a2 true) = some (r1, r2, r3) := by rw [if_neg (show ¬ (false = true) by decide)] at H; exact H
        clear H
        have H := H1
        clear H1
        as_aux_lemma =>
          have H' := Aside0.mk H
          clear H
          go_wp2_with (first | ((with_reducible refine gate_callee (f := 52) rfl ?_); refine goesL_ (some 15) rfl rfl Try.func52 (by kernel_rfl) rfl #[.int .i64 a0, .int .i64 1, .int .i64 1000] rfl (by (try simp only [List.map_toArray, List.map_cons, List.map_nil]); first | done | rfl | (simp only [List.length_drop, List.length_take]; rfl)) ?_; (with_reducible refine (spec_l00In.calls a0 1 1000 true _ A5.out).mono ?_); rintro e w' ⟨rfl, ⟨nd, rfl⟩⟩; refine ⟨_, rfl, ?_⟩) | (go_at_call 52; (with_reducible refine (spec_l00In.calls a1 1 1000 false _ A7.out).mono ?_); rintro e w' ⟨rfl, ⟨nd, rfl⟩⟩))
          go_meet
          case rel => exact ⟨_, (true), (by first | rfl | (simp; done) | (simp [*]; done)), H', ⟨by first | omega | exact Nat.le_refl _⟩, by repeat (first | exact Drawn0.refl _ | apply Drawn0.step)⟩
    · replace c6 := Bool.eq_false_iff.mpr c6
      subst c6
      have H1 : (spec_NearestWheels.j0 k a0 a1 a2 true) = some (r1, r2, r3) := by rw [if_neg (show ¬ (false = true) by decide)] at H; exact H
      clear H
      have H := H1
      clear H1
      as_aux_lemma =>
        have H' := Aside0.mk H
        clear H
        go_wp2_with (first | ((with_reducible refine gate_callee (f := 52) rfl ?_); refine goesL_ (some 15) rfl rfl Try.func52 (by kernel_rfl) rfl #[.int .i64 a0, .int .i64 1, .int .i64 1000] rfl (by (try simp only [List.map_toArray, List.map_cons, List.map_nil]); first | done | rfl | (simp only [List.length_drop, List.length_take]; rfl)) ?_; (with_reducible refine (spec_l00In.calls a0 1 1000 false _ A5.out).mono ?_); rintro e w' ⟨rfl, ⟨nd, rfl⟩⟩; refine ⟨_, rfl, ?_⟩))
        go_meet
        case rel => exact ⟨_, (true), (by first | rfl | (simp; done) | (simp [*]; done)), H', ⟨by first | omega | exact Nat.le_refl _⟩, by repeat (first | exact Drawn0.refl _ | apply Drawn0.step)⟩
  case rest =>
    clear HC4
    try clear p2
    try clear c3
    try clear c5
    try clear c6
    try clear c8
    obtain ⟨kq, x26_3, rfl, HA, HJ3, ⟨mc3, rfl⟩⟩ := hcut
    cases kq with
    | zero => exact absurd HA.out (by simp [spec_NearestWheels.j0])
    | succ kj3 =>
      have H := HA.out
      clear HA
      simp only [spec_NearestWheels.j0] at H
      by_cases c10 : x26_3 = true
      · subst c10
        have H1 : (some (0, 0, 2)) = some (r1, r2, r3) := by rw [if_pos rfl] at H; exact H
        clear H
        have H := H1
        clear H1
        as_aux_lemma =>
          simp only [Option.some.injEq, Prod.mk.injEq] at H
          obtain ⟨rfl, rfl, rfl⟩ := H
          go_wp2
          go_ret3
          exact ⟨by first | rfl | (simp; done) | (simp [*]; done), by repeat (first | exact Drawn0.refl _ | apply Drawn0.step)⟩
      · replace c10 := Bool.eq_false_iff.mpr c10
        subst c10
        have H1 : (spec_NearestWheels.l0 kj3 a0 a1 a2 0 0 16) = some (r1, r2, r3) := by rw [if_neg (show ¬ (false = true) by decide)] at H; exact H
        clear H
        have H := H1
        clear H1
        have H' := Aside0.mk H
        clear H
        go_wp2
        go_loopg [9, 10, 11] kj3 (fun kq v9 v10 v11 w' => ∃ (x9_2 : Int) (x10_2 : Int) (x11_2 : Int), v9 = .int .i64 x9_2 ∧ v10 = .int .i64 x10_2 ∧ v11 = .int .i64 x11_2 ∧ Aside0 (spec_NearestWheels.l0 kq a0 a1 a2 x9_2 x10_2 x11_2 = some (r1, r2, r3)) ∧ Aside0 (kq ≤ kj3) ∧ Drawn0 w w')
        case atStart => exact ⟨(0), (0), (16), (by first | rfl | (simp; done) | (simp [*]; done)), (by first | rfl | (simp; done) | (simp [*]; done)), (by first | rfl | (simp; done) | (simp [*]; done)), H', ⟨Nat.le_refl _⟩, by repeat (first | exact Drawn0.refl _ | apply Drawn0.step)⟩
        case round =>
          clear H'
          try clear c1
          try clear p2
          try clear c3
          try clear c5
          try clear c6
          try clear c8
          try clear c10
          try clear p2
          obtain ⟨x9_2, x10_2, x11_2, rfl, rfl, rfl, HA, HK2, ⟨m2, rfl⟩⟩ := hrel
          cases gk with
          | zero => exact absurd HA.out (by simp [spec_NearestWheels.l0])
          | succ k2 =>
            have H := HA.out
            clear HA
            simp only [spec_NearestWheels.l0] at H
            by_cases c11 : x11_2 ≤ (wrap64 (2 * a2))
            · rw [if_pos c11] at H
              have c11b0 : decide (x11_2 ≤ (wrap64 (2 * a2))) = true := decide_eq_true c11
              clear c11
              have H' := Aside0.mk H
              clear H
              go_wp2
              go_loopg [9, 10, 12] k2 (fun kq v9 v10 v12 w' => ∃ (x9_3 : Int) (x10_3 : Int) (x12_3 : Int), v9 = .int .i64 x9_3 ∧ v10 = .int .i64 x10_3 ∧ v12 = .int .i64 x12_3 ∧ Aside0 (spec_NearestWheels.l1 kq a0 a1 a2 x9_3 x10_3 x11_2 x12_3 = some (r1, r2, r3)) ∧ Aside0 (kq ≤ k2) ∧ Drawn0 w w')
              case atStart => exact ⟨(x9_2), (x10_2), (8), (by first | rfl | (simp; done) | (simp [*]; done)), (by first | rfl | (simp; done) | (simp [*]; done)), (by first | rfl | (simp; done) | (simp [*]; done)), H', ⟨Nat.le_refl _⟩, by repeat (first | exact Drawn0.refl _ | apply Drawn0.step)⟩
              case round =>
                clear H'
                try clear c1
                try clear p2
                try clear c3
                try clear c5
                try clear c6
                try clear p6
                try clear c8
                try clear c10
                try clear c11
                try clear c11b0
                try clear p2
                obtain ⟨x9_3, x10_3, x12_3, rfl, rfl, rfl, HA, HK3, ⟨m3, rfl⟩⟩ := hrel
                cases gk with
                | zero => exact absurd HA.out (by simp [spec_NearestWheels.l1])
                | succ k3 =>
                  have H := HA.out
                  clear HA
                  simp only [spec_NearestWheels.l1] at H
                  by_cases c12 : x12_3 ≤ a2
                  · rw [if_pos c12] at H
                    have c12b0 : decide (x12_3 ≤ a2) = true := decide_eq_true c12
                    clear c12
                    replace H := Option.bind_eq_some_iff.mp H
                    obtain ⟨t135, A130, H⟩ := H
                    replace H : (if t135 = true then (if x10_3 = 0 then (spec_NearestWheels.l1 k3 a0 a1 a2 x12_3 (wrap64 (x11_2 - x12_3)) x11_2 (wrap64 (x12_3 + 1))) else ((spec_l01Size.f (wrap64 ((wrap64 (x12_3 * a1)) - (wrap64 (a0 * (wrap64 (x11_2 - x12_3))))))).bind fun t136 => ((spec_l01Size.f (wrap64 ((wrap64 (x9_3 * a1)) - (wrap64 (a0 * x10_3))))).bind fun t137 => (if (wrap64 (t136 * x10_3)) < (wrap64 (t137 * (wrap64 (x11_2 - x12_3)))) then (spec_NearestWheels.l1 k3 a0 a1 a2 x12_3 (wrap64 (x11_2 - x12_3)) x11_2 (wrap64 (x12_3 + 1))) else (spec_NearestWheels.l1 k3 a0 a1 a2 x9_3 x10_3 x11_2 (wrap64 (x12_3 + 1))))))) else (spec_NearestWheels.l1 k3 a0 a1 a2 x9_3 x10_3 x11_2 (wrap64 (x12_3 + 1)))) = some (r1, r2, r3) := H
                    have A13 := Aside0.mk A130
                    clear A130
                    by_cases c14 : t135 = true
                    · subst c14
                      have H1 : (if x10_3 = 0 then (spec_NearestWheels.l1 k3 a0 a1 a2 x12_3 (wrap64 (x11_2 - x12_3)) x11_2 (wrap64 (x12_3 + 1))) else ((spec_l01Size.f (wrap64 ((wrap64 (x12_3 * a1)) - (wrap64 (a0 * (wrap64 (x11_2 - x12_3))))))).bind fun t136 => ((spec_l01Size.f (wrap64 ((wrap64 (x9_3 * a1)) - (wrap64 (a0 * x10_3))))).bind fun t137 => (if (wrap64 (t136 * x10_3)) < (wrap64 (t137 * (wrap64 (x11_2 - x12_3)))) then (spec_NearestWheels.l1 k3 a0 a1 a2 x12_3 (wrap64 (x11_2 - x12_3)) x11_2 (wrap64 (x12_3 + 1))) else (spec_NearestWheels.l1 k3 a0 a1 a2 x9_3 x10_3 x11_2 (wrap64 (x12_3 + 1))))))) = some (r1, r2, r3) := by rw [if_pos rfl] at H; exact H
                      clear H
                      have H := H1
                      clear H1
                      by_cases c15 : x10_3 = 0
                      · rw [if_pos c15] at H
                        have c15b0 : (x10_3 == 0) = true := beq_iff_eq.mpr c15
                        have c15b1 : (x10_3 != 0) = false := bne_eq_false_iff_eq.mpr c15
                        clear c15
                        as_aux_lemma =>
                          have H' := Aside0.mk H
                          clear H
                          go_wp2_with (first | ((with_reducible refine gate_callee (f := 52) rfl ?_); refine goesL_ (some 43) rfl rfl Try.func52 (by kernel_rfl) rfl #[.int .i64 (wrap64 (x11_2 - x12_3)), .int .i64 8, .int .i64 a2] rfl (by (try simp only [List.map_toArray, List.map_cons, List.map_nil]); first | done | rfl | (simp only [List.length_drop, List.length_take]; rfl)) ?_; (with_reducible refine (spec_l00In.calls (wrap64 (x11_2 - x12_3)) 8 a2 true _ A13.out).mono ?_); rintro e w' ⟨rfl, ⟨nd, rfl⟩⟩; refine ⟨_, rfl, ?_⟩))
                          go_roundg k3
                          case measure => have := HJ3.out; have := HK2.out; have := HK3.out; omega
                          case rel => exact ⟨(x12_3), (wrap64 (x11_2 - x12_3)), (wrap64 (x12_3 + 1)), (by first | rfl | (simp; done) | (simp [*]; done)), (by first | rfl | (simp; done) | (simp [*]; done)), (by first | rfl | (simp; done) | (simp [*]; done)), H', ⟨by have := HJ3.out; have := HK2.out; have := HK3.out; omega⟩, by repeat (first | exact Drawn0.refl _ | apply Drawn0.step)⟩
                      · rw [if_neg c15] at H
                        have c15b0 : (x10_3 == 0) = false := beq_eq_false_iff_ne.mpr c15
                        have c15b1 : (x10_3 != 0) = true := bne_iff_ne.mpr c15
                        replace H := Option.bind_eq_some_iff.mp H
                        obtain ⟨t136, A160, H⟩ := H
                        replace H : ((spec_l01Size.f (wrap64 ((wrap64 (x9_3 * a1)) - (wrap64 (a0 * x10_3))))).bind fun t137 => (if (wrap64 (t136 * x10_3)) < (wrap64 (t137 * (wrap64 (x11_2 - x12_3)))) then (spec_NearestWheels.l1 k3 a0 a1 a2 x12_3 (wrap64 (x11_2 - x12_3)) x11_2 (wrap64 (x12_3 + 1))) else (spec_NearestWheels.l1 k3 a0 a1 a2 x9_3 x10_3 x11_2 (wrap64 (x12_3 + 1))))) = some (r1, r2, r3) := H
                        have A16 := Aside0.mk A160
                        clear A160
                        replace H := Option.bind_eq_some_iff.mp H
                        obtain ⟨t137, A170, H⟩ := H
                        replace H : (if (wrap64 (t136 * x10_3)) < (wrap64 (t137 * (wrap64 (x11_2 - x12_3)))) then (spec_NearestWheels.l1 k3 a0 a1 a2 x12_3 (wrap64 (x11_2 - x12_3)) x11_2 (wrap64 (x12_3 + 1))) else (spec_NearestWheels.l1 k3 a0 a1 a2 x9_3 x10_3 x11_2 (wrap64 (x12_3 + 1)))) = some (r1, r2, r3) := H
                        have A17 := Aside0.mk A170
                        clear A170
                        by_cases c18 : (wrap64 (t136 * x10_3)) < (wrap64 (t137 * (wrap64 (x11_2 - x12_3))))
                        · rw [if_pos c18] at H
                          have c18b0 : decide ((wrap64 (t136 * x10_3)) < (wrap64 (t137 * (wrap64 (x11_2 - x12_3))))) = true := decide_eq_true c18
                          clear c18
                          as_aux_lemma =>
                            have H' := Aside0.mk H
                            clear H
                            go_wp2_with (first | ((with_reducible refine gate_callee (f := 52) rfl ?_); refine goesL_ (some 43) rfl rfl Try.func52 (by kernel_rfl) rfl #[.int .i64 (wrap64 (x11_2 - x12_3)), .int .i64 8, .int .i64 a2] rfl (by (try simp only [List.map_toArray, List.map_cons, List.map_nil]); first | done | rfl | (simp only [List.length_drop, List.length_take]; rfl)) ?_; (with_reducible refine (spec_l00In.calls (wrap64 (x11_2 - x12_3)) 8 a2 true _ A13.out).mono ?_); rintro e w' ⟨rfl, ⟨nd, rfl⟩⟩; refine ⟨_, rfl, ?_⟩) | (go_at_call 61; (with_reducible refine (spec_l01Size.calls (wrap64 ((wrap64 (x12_3 * a1)) - (wrap64 (a0 * (wrap64 (x11_2 - x12_3)))))) t136 _ A16.out).mono ?_); rintro e w' ⟨rfl, ⟨nd, rfl⟩⟩) | (go_at_call 61; (with_reducible refine (spec_l01Size.calls (wrap64 ((wrap64 (x9_3 * a1)) - (wrap64 (a0 * x10_3)))) t137 _ A17.out).mono ?_); rintro e w' ⟨rfl, ⟨nd, rfl⟩⟩))
                            go_roundg k3
                            case measure => have := HJ3.out; have := HK2.out; have := HK3.out; omega
                            case rel => exact ⟨(x12_3), (wrap64 (x11_2 - x12_3)), (wrap64 (x12_3 + 1)), (by first | rfl | (simp; done) | (simp [*]; done)), (by first | rfl | (simp; done) | (simp [*]; done)), (by first | rfl | (simp; done) | (simp [*]; done)), H', ⟨by have := HJ3.out; have := HK2.out; have := HK3.out; omega⟩, by repeat (first | exact Drawn0.refl _ | apply Drawn0.step)⟩
                        · rw [if_neg c18] at H
                          have c18b0 : decide ((wrap64 (t136 * x10_3)) < (wrap64 (t137 * (wrap64 (x11_2 - x12_3))))) = false := decide_eq_false c18
                          clear c18
                          as_aux_lemma =>
                            have H' := Aside0.mk H
                            clear H
                            go_wp2_with (first | ((with_reducible refine gate_callee (f := 52) rfl ?_); refine goesL_ (some 43) rfl rfl Try.func52 (by kernel_rfl) rfl #[.int .i64 (wrap64 (x11_2 - x12_3)), .int .i64 8, .int .i64 a2] rfl (by (try simp only [List.map_toArray, List.map_cons, List.map_nil]); first | done | rfl | (simp only [List.length_drop, List.length_take]; rfl)) ?_; (with_reducible refine (spec_l00In.calls (wrap64 (x11_2 - x12_3)) 8 a2 true _ A13.out).mono ?_); rintro e w' ⟨rfl, ⟨nd, rfl⟩⟩; refine ⟨_, rfl, ?_⟩) | (go_at_call 61; (with_reducible refine (spec_l01Size.calls (wrap64 ((wrap64 (x12_3 * a1)) - (wrap64 (a0 * (wrap64 (x11_2 - x12_3)))))) t136 _ A16.out).mono ?_); rintro e w' ⟨rfl, ⟨nd, rfl⟩⟩) | (go_at_call 61; (with_reducible refine (spec_l01Size.calls (wrap64 ((wrap64 (x9_3 * a1)) - (wrap64 (a0 * x10_3)))) t137 _ A17.out).mono ?_); rintro e w' ⟨rfl, ⟨nd, rfl⟩⟩))
                            go_roundg k3
                            case measure => have := HJ3.out; have := HK2.out; have := HK3.out; omega
                            case rel => exact ⟨(x9_3), (x10_3), (wrap64 (x12_3 + 1)), (by first | rfl | (simp; done) | (simp [*]; done)), (by first | rfl | (simp; done) | (simp [*]; done)), (by first | rfl | (simp; done) | (simp [*]; done)), H', ⟨by have := HJ3.out; have := HK2.out; have := HK3.out; omega⟩, by repeat (first | exact Drawn0.refl _ | apply Drawn0.step)⟩
                    · replace c14 := Bool.eq_false_iff.mpr c14
                      subst c14
                      have H1 : (spec_NearestWheels.l1 k3 a0 a1 a2 x9_3 x10_3 x11_2 (wrap64 (x12_3 + 1))) = some (r1, r2, r3) := by rw [if_neg (show ¬ (false = true) by decide)] at H; exact H
                      clear H
                      have H := H1
                      clear H1
                      as_aux_lemma =>
                        have H' := Aside0.mk H
                        clear H
                        go_wp2_with (first | ((with_reducible refine gate_callee (f := 52) rfl ?_); refine goesL_ (some 43) rfl rfl Try.func52 (by kernel_rfl) rfl #[.int .i64 (wrap64 (x11_2 - x12_3)), .int .i64 8, .int .i64 a2] rfl (by (try simp only [List.map_toArray, List.map_cons, List.map_nil]); first | done | rfl | (simp only [List.length_drop, List.length_take]; rfl)) ?_; (with_reducible refine (spec_l00In.calls (wrap64 (x11_2 - x12_3)) 8 a2 false _ A13.out).mono ?_); rintro e w' ⟨rfl, ⟨nd, rfl⟩⟩; refine ⟨_, rfl, ?_⟩))
                        go_roundg k3
                        case measure => have := HJ3.out; have := HK2.out; have := HK3.out; omega
                        case rel => exact ⟨(x9_3), (x10_3), (wrap64 (x12_3 + 1)), (by first | rfl | (simp; done) | (simp [*]; done)), (by first | rfl | (simp; done) | (simp [*]; done)), (by first | rfl | (simp; done) | (simp [*]; done)), H', ⟨by have := HJ3.out; have := HK2.out; have := HK3.out; omega⟩, by repeat (first | exact Drawn0.refl _ | apply Drawn0.step)⟩
                  · rw [if_neg c12] at H
                    have c12b0 : decide (x12_3 ≤ a2) = false := decide_eq_false c12
                    clear c12
                    as_aux_lemma =>
                      have H' := Aside0.mk H
                      clear H
                      go_wp2
                      go_roundg k3
                      case measure => have := HJ3.out; have := HK2.out; have := HK3.out; omega
                      case rel => exact ⟨(x9_3), (x10_3), (wrap64 (x11_2 + 1)), (by first | rfl | (simp; done) | (simp [*]; done)), (by first | rfl | (simp; done) | (simp [*]; done)), (by first | rfl | (simp; done) | (simp [*]; done)), H', ⟨by have := HJ3.out; have := HK2.out; have := HK3.out; omega⟩, by repeat (first | exact Drawn0.refl _ | apply Drawn0.step)⟩
            · rw [if_neg c11] at H
              have c11b0 : decide (x11_2 ≤ (wrap64 (2 * a2))) = false := decide_eq_false c11
              clear c11
              as_aux_lemma =>
                simp only [Option.some.injEq, Prod.mk.injEq] at H
                obtain ⟨rfl, rfl, rfl⟩ := H
                go_wp2
                go_ret3
                exact ⟨by first | rfl | (simp; done) | (simp [*]; done), by repeat (first | exact Drawn0.refl _ | apply Drawn0.step)⟩

end Go.Proofs.Ytkjjmelhnbjoeaa.FFnWheels
