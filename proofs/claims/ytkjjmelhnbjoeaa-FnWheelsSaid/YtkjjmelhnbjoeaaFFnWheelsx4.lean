-- Written by fvprint.py, a program of this session over the kit's print. Not trusted: Lean checks it.
import Derived.Test.YtkjjmelhnbjoeaaFFnWheelsx0
import Derived.Test.YtkjjmelhnbjoeaaFFnWheelsx1
import Derived.Test.YtkjjmelhnbjoeaaFFnWheelsx2
import Derived.Test.YtkjjmelhnbjoeaaFFnWheelsx3
namespace Go.Proofs.Ytkjjmelhnbjoeaa.FFnWheels
open Go.RowKit Go.Proofs.YtkjjmelhnbjoeaaW.PrintWords Go.Proofs.YtkjjmelhnbjoeaaW.PrintLast Go.Proofs.YtkjjmelhnbjoeaaW.PrintMore
attribute [local go_sem] max2_int min2_int max_two min_two max_three min_three max_four min_four   -- for this text's walks alone
set_option linter.unusedVariables false
set_option linter.unusedSimpArgs false

/-! ### laws_FnWheels: function 8 -/
mutual
def laws_FnWheels.j0 : Nat → List Int → Int → Int → Int → Int → Int → Int → Int → Int → Bool → Option (Bool)
  | 0, _, _, _, _, _, _, _, _, _, _ => none
  | k + 1, x1, x5, x6, x7, x10, x11, x12, x17, x18, x115 => if x115 = true then (some false) else (if x10 = 0 then (if (wrap64 (x11 * x6)) = (wrap64 (x12 * x5)) then (if x11 < 8 then (laws_FnWheels.j1 k x1 x5 x6 x7 x10 x17 x18 true) else (if x11 > 120 then (laws_FnWheels.j1 k x1 x5 x6 x7 x10 x17 x18 true) else (if x12 < 8 then (laws_FnWheels.j1 k x1 x5 x6 x7 x10 x17 x18 true) else (if x12 > 120 then (laws_FnWheels.j1 k x1 x5 x6 x7 x10 x17 x18 true) else (if x11 ≤ x7 then (if x12 ≤ x7 then (laws_FnWheels.j1 k x1 x5 x6 x7 x10 x17 x18 ((wrap64 (x17 * x6)) != (wrap64 (x18 * x5)))) else (laws_FnWheels.j1 k x1 x5 x6 x7 x10 x17 x18 false)) else (laws_FnWheels.j1 k x1 x5 x6 x7 x10 x17 x18 false)))))) else (laws_FnWheels.j1 k x1 x5 x6 x7 x10 x17 x18 true)) else (laws_FnWheels.j1 k x1 x5 x6 x7 x10 x17 x18 false))
def laws_FnWheels.j1 : Nat → List Int → Int → Int → Int → Int → Int → Int → Bool → Option (Bool)
  | 0, _, _, _, _, _, _, _, _ => none
  | k + 1, x1, x5, x6, x7, x10, x17, x18, x161 => if x161 = true then (some false) else (if x10 = 0 then (laws_FnWheels.j2 k x1 x5 x6 x7 x17 x18 false) else (laws_FnWheels.j2 k x1 x5 x6 x7 x17 x18 (x10 != 6)))
def laws_FnWheels.j2 : Nat → List Int → Int → Int → Int → Int → Int → Bool → Option (Bool)
  | 0, _, _, _, _, _, _, _ => none
  | k + 1, x1, x5, x6, x7, x17, x18, x167 => if x167 = true then (some false) else ((laws_a2At.f x1 1 (wrap64 (x7 - 7))).bind fun t154 => ((laws_a2At.f x1 2 (wrap64 (x7 - 7))).bind fun t155 => (some (decide ((wrap64 ((mx (wrap64 ((wrap64 (x17 * x6)) - (wrap64 (x18 * x5)))) (wrap64 ((wrap64 (x18 * x5)) - (wrap64 (x17 * x6))))) * (wrap64 (8 + t155)))) ≤ (wrap64 ((mx (wrap64 ((wrap64 ((wrap64 (8 + t154)) * x6)) - (wrap64 ((wrap64 (8 + t155)) * x5)))) (wrap64 ((wrap64 ((wrap64 (8 + t155)) * x5)) - (wrap64 ((wrap64 (8 + t154)) * x6))))) * x18)))))))
end
def laws_FnWheels.f (k : Nat) (l0 : List Int) (l1 : List Int) : Option (Bool) := (laws_a2Long.f l0 l1).bind fun t138 => (if t138 = true then (some true) else ((laws_a2At.f l0 0 100).bind fun t139 => ((laws_a2At.f l0 1 100).bind fun t140 => ((laws_a2At.f l1 0 40).bind fun t141 => ((impl_WheelsFor.f k (wrap64 (1 + t139)) (wrap64 (1 + t140))).bind fun bt142 => ((spec_WheelsFor.f k (wrap64 (1 + t139)) (wrap64 (1 + t140))).bind fun bt145 => ((impl_NearestWheels.f k (wrap64 (1 + t139)) (wrap64 (1 + t140)) (wrap64 (8 + t141))).bind fun bt148 => ((spec_NearestWheels.f k (wrap64 (1 + t139)) (wrap64 (1 + t140)) (wrap64 (8 + t141))).bind fun bt151 => (if bt142.2.2 = bt145.2.2 then (if bt142.1 = bt145.1 then (if bt142.2.1 = bt145.2.1 then (if bt148.2.2 = bt151.2.2 then (if bt148.2.2 = 0 then (if bt148.1 = bt151.1 then (if bt148.2.1 = bt151.2.1 then (if bt151.1 < 8 then (laws_FnWheels.j0 k l1 (wrap64 (1 + t139)) (wrap64 (1 + t140)) (wrap64 (8 + t141)) bt142.2.2 bt145.1 bt145.2.1 bt151.1 bt151.2.1 true) else (if bt151.1 > (wrap64 (8 + t141)) then (laws_FnWheels.j0 k l1 (wrap64 (1 + t139)) (wrap64 (1 + t140)) (wrap64 (8 + t141)) bt142.2.2 bt145.1 bt145.2.1 bt151.1 bt151.2.1 true) else (if bt151.2.1 < 8 then (laws_FnWheels.j0 k l1 (wrap64 (1 + t139)) (wrap64 (1 + t140)) (wrap64 (8 + t141)) bt142.2.2 bt145.1 bt145.2.1 bt151.1 bt151.2.1 true) else (laws_FnWheels.j0 k l1 (wrap64 (1 + t139)) (wrap64 (1 + t140)) (wrap64 (8 + t141)) bt142.2.2 bt145.1 bt145.2.1 bt151.1 bt151.2.1 (decide (bt151.2.1 > (wrap64 (8 + t141)))))))) else (laws_FnWheels.j0 k l1 (wrap64 (1 + t139)) (wrap64 (1 + t140)) (wrap64 (8 + t141)) bt142.2.2 bt145.1 bt145.2.1 bt151.1 bt151.2.1 true)) else (laws_FnWheels.j0 k l1 (wrap64 (1 + t139)) (wrap64 (1 + t140)) (wrap64 (8 + t141)) bt142.2.2 bt145.1 bt145.2.1 bt151.1 bt151.2.1 true)) else (laws_FnWheels.j0 k l1 (wrap64 (1 + t139)) (wrap64 (1 + t140)) (wrap64 (8 + t141)) bt142.2.2 bt145.1 bt145.2.1 bt151.1 bt151.2.1 true)) else (laws_FnWheels.j0 k l1 (wrap64 (1 + t139)) (wrap64 (1 + t140)) (wrap64 (8 + t141)) bt142.2.2 bt145.1 bt145.2.1 bt151.1 bt151.2.1 true)) else (laws_FnWheels.j0 k l1 (wrap64 (1 + t139)) (wrap64 (1 + t140)) (wrap64 (8 + t141)) bt142.2.2 bt145.1 bt145.2.1 bt151.1 bt151.2.1 true)) else (laws_FnWheels.j0 k l1 (wrap64 (1 + t139)) (wrap64 (1 + t140)) (wrap64 (8 + t141)) bt142.2.2 bt145.1 bt145.2.1 bt151.1 bt151.2.1 true)) else (laws_FnWheels.j0 k l1 (wrap64 (1 + t139)) (wrap64 (1 + t140)) (wrap64 (8 + t141)) bt142.2.2 bt145.1 bt145.2.1 bt151.1 bt151.2.1 true))))))))))
theorem laws_FnWheels.mono_l : ∀ k, (∀ y0 y1 y2 y3 y4 y5 y6 y7 y8 y9, LeO (laws_FnWheels.j0 k y0 y1 y2 y3 y4 y5 y6 y7 y8 y9) (laws_FnWheels.j0 (k + 1) y0 y1 y2 y3 y4 y5 y6 y7 y8 y9)) ∧ (∀ y0 y1 y2 y3 y4 y5 y6 y7, LeO (laws_FnWheels.j1 k y0 y1 y2 y3 y4 y5 y6 y7) (laws_FnWheels.j1 (k + 1) y0 y1 y2 y3 y4 y5 y6 y7)) ∧ (∀ y0 y1 y2 y3 y4 y5 y6, LeO (laws_FnWheels.j2 k y0 y1 y2 y3 y4 y5 y6) (laws_FnWheels.j2 (k + 1) y0 y1 y2 y3 y4 y5 y6))
  | 0 => ⟨fun _ _ _ _ _ _ _ _ _ _ r h => by simp [laws_FnWheels.j0] at h, fun _ _ _ _ _ _ _ _ r h => by simp [laws_FnWheels.j1] at h, fun _ _ _ _ _ _ _ r h => by simp [laws_FnWheels.j2] at h⟩
  | k + 1 => by
    obtain ⟨ih0, ih1, ih2⟩ := laws_FnWheels.mono_l k
    refine ⟨?_, ?_, ?_⟩
    · intro y0 y1 y2 y3 y4 y5 y6 y7 y8 y9
      unfold laws_FnWheels.j0
      repeat' first
      | (with_reducible exact ih0 _ _ _ _ _ _ _ _ _ _)
      | (with_reducible exact ih1 _ _ _ _ _ _ _ _)
      | (with_reducible exact ih2 _ _ _ _ _ _ _)
      | (with_reducible exact impl_NearestWheels.mono _ _ _ _)
      | (with_reducible exact impl_WheelsFor.mono _ _ _)
      | (with_reducible exact spec_NearestWheels.mono _ _ _ _)
      | (with_reducible exact spec_WheelsFor.mono _ _ _)
      | (with_reducible exact LeO.refl _)
      | (with_reducible exact LeO.none _)
      | (with_reducible refine LeO.ite ?_ ?_)
      | (with_reducible refine LeO.bind ?_ (fun _ => ?_))
      | exact ih0 _ _ _ _ _ _ _ _ _ _
      | exact ih1 _ _ _ _ _ _ _ _
      | exact ih2 _ _ _ _ _ _ _
      | exact impl_NearestWheels.mono _ _ _ _
      | exact impl_WheelsFor.mono _ _ _
      | exact spec_NearestWheels.mono _ _ _ _
      | exact spec_WheelsFor.mono _ _ _
      | exact LeO.none _
      | refine LeO.ite ?_ ?_
      | refine LeO.bind ?_ (fun _ => ?_)
    · intro y0 y1 y2 y3 y4 y5 y6 y7
      unfold laws_FnWheels.j1
      repeat' first
      | (with_reducible exact ih0 _ _ _ _ _ _ _ _ _ _)
      | (with_reducible exact ih1 _ _ _ _ _ _ _ _)
      | (with_reducible exact ih2 _ _ _ _ _ _ _)
      | (with_reducible exact impl_NearestWheels.mono _ _ _ _)
      | (with_reducible exact impl_WheelsFor.mono _ _ _)
      | (with_reducible exact spec_NearestWheels.mono _ _ _ _)
      | (with_reducible exact spec_WheelsFor.mono _ _ _)
      | (with_reducible exact LeO.refl _)
      | (with_reducible exact LeO.none _)
      | (with_reducible refine LeO.ite ?_ ?_)
      | (with_reducible refine LeO.bind ?_ (fun _ => ?_))
      | exact ih0 _ _ _ _ _ _ _ _ _ _
      | exact ih1 _ _ _ _ _ _ _ _
      | exact ih2 _ _ _ _ _ _ _
      | exact impl_NearestWheels.mono _ _ _ _
      | exact impl_WheelsFor.mono _ _ _
      | exact spec_NearestWheels.mono _ _ _ _
      | exact spec_WheelsFor.mono _ _ _
      | exact LeO.none _
      | refine LeO.ite ?_ ?_
      | refine LeO.bind ?_ (fun _ => ?_)
    · intro y0 y1 y2 y3 y4 y5 y6
      unfold laws_FnWheels.j2
      repeat' first
      | (with_reducible exact ih0 _ _ _ _ _ _ _ _ _ _)
      | (with_reducible exact ih1 _ _ _ _ _ _ _ _)
      | (with_reducible exact ih2 _ _ _ _ _ _ _)
      | (with_reducible exact impl_NearestWheels.mono _ _ _ _)
      | (with_reducible exact impl_WheelsFor.mono _ _ _)
      | (with_reducible exact spec_NearestWheels.mono _ _ _ _)
      | (with_reducible exact spec_WheelsFor.mono _ _ _)
      | (with_reducible exact LeO.refl _)
      | (with_reducible exact LeO.none _)
      | (with_reducible refine LeO.ite ?_ ?_)
      | (with_reducible refine LeO.bind ?_ (fun _ => ?_))
      | exact ih0 _ _ _ _ _ _ _ _ _ _
      | exact ih1 _ _ _ _ _ _ _ _
      | exact ih2 _ _ _ _ _ _ _
      | exact impl_NearestWheels.mono _ _ _ _
      | exact impl_WheelsFor.mono _ _ _
      | exact spec_NearestWheels.mono _ _ _ _
      | exact spec_WheelsFor.mono _ _ _
      | exact LeO.none _
      | refine LeO.ite ?_ ?_
      | refine LeO.bind ?_ (fun _ => ?_)
theorem laws_FnWheels.mono : ∀ a0 a1 k, LeO (laws_FnWheels.f k a0 a1) (laws_FnWheels.f (k + 1) a0 a1) := by
  intro a0 a1 k
  obtain ⟨ih0, ih1, ih2⟩ := laws_FnWheels.mono_l k
  unfold laws_FnWheels.f
  repeat' first
      | (with_reducible exact ih0 _ _ _ _ _ _ _ _ _ _)
      | (with_reducible exact ih1 _ _ _ _ _ _ _ _)
      | (with_reducible exact ih2 _ _ _ _ _ _ _)
      | (with_reducible exact impl_NearestWheels.mono _ _ _ _)
      | (with_reducible exact impl_WheelsFor.mono _ _ _)
      | (with_reducible exact spec_NearestWheels.mono _ _ _ _)
      | (with_reducible exact spec_WheelsFor.mono _ _ _)
      | (with_reducible exact LeO.refl _)
      | (with_reducible exact LeO.none _)
      | (with_reducible refine LeO.ite ?_ ?_)
      | (with_reducible refine LeO.bind ?_ (fun _ => ?_))
      | exact ih0 _ _ _ _ _ _ _ _ _ _
      | exact ih1 _ _ _ _ _ _ _ _
      | exact ih2 _ _ _ _ _ _ _
      | exact impl_NearestWheels.mono _ _ _ _
      | exact impl_WheelsFor.mono _ _ _
      | exact spec_NearestWheels.mono _ _ _ _
      | exact spec_WheelsFor.mono _ _ _
      | exact LeO.none _
      | refine LeO.ite ?_ ?_
      | refine LeO.bind ?_ (fun _ => ?_)
set_option maxHeartbeats 8000000 in
set_option maxRecDepth 100000 in
theorem laws_FnWheels.calls (k : Nat) (A0 : Option Addr) (c0 : Nat) (l0 : List Int) (A1 : Option Addr) (c1 : Nat) (l1 : List Int) (r : Bool) (w : World) (hr0 : Kd.C (Kd.int .u8) w A0 l0.length l0) (hc0 : l0.length ≤ c0) (hr1 : Kd.C (Kd.int .u8) w A1 l1.length l1) (hc1 : l1.length ≤ c1) (h : laws_FnWheels.f k l0 l1 = some r) :
    Calls Try.prog 8 #[.slice A0 l0.length c0, .slice A1 l1.length c1] w fun e w' => e = .returned (.bool r) ∧ Below w.heap.size w w' := by
  have HR0 := Aside0.mk hr0
  have HC0 := Aside0.mk hc0
  clear hr0 hc0
  have HR1 := Aside0.mk hr1
  have HC1 := Aside0.mk hc1
  clear hr1 hc1
  have HB := Aside0.mk (Below.refl w.heap.size w)
  have H : ((laws_a2Long.f l0 l1).bind fun t138 => (if t138 = true then (some true) else ((laws_a2At.f l0 0 100).bind fun t139 => ((laws_a2At.f l0 1 100).bind fun t140 => ((laws_a2At.f l1 0 40).bind fun t141 => ((impl_WheelsFor.f k (wrap64 (1 + t139)) (wrap64 (1 + t140))).bind fun bt142 => ((spec_WheelsFor.f k (wrap64 (1 + t139)) (wrap64 (1 + t140))).bind fun bt145 => ((impl_NearestWheels.f k (wrap64 (1 + t139)) (wrap64 (1 + t140)) (wrap64 (8 + t141))).bind fun bt148 => ((spec_NearestWheels.f k (wrap64 (1 + t139)) (wrap64 (1 + t140)) (wrap64 (8 + t141))).bind fun bt151 => (if bt142.2.2 = bt145.2.2 then (if bt142.1 = bt145.1 then (if bt142.2.1 = bt145.2.1 then (if bt148.2.2 = bt151.2.2 then (if bt148.2.2 = 0 then (if bt148.1 = bt151.1 then (if bt148.2.1 = bt151.2.1 then (if bt151.1 < 8 then (laws_FnWheels.j0 k l1 (wrap64 (1 + t139)) (wrap64 (1 + t140)) (wrap64 (8 + t141)) bt142.2.2 bt145.1 bt145.2.1 bt151.1 bt151.2.1 true) else (if bt151.1 > (wrap64 (8 + t141)) then (laws_FnWheels.j0 k l1 (wrap64 (1 + t139)) (wrap64 (1 + t140)) (wrap64 (8 + t141)) bt142.2.2 bt145.1 bt145.2.1 bt151.1 bt151.2.1 true) else (if bt151.2.1 < 8 then (laws_FnWheels.j0 k l1 (wrap64 (1 + t139)) (wrap64 (1 + t140)) (wrap64 (8 + t141)) bt142.2.2 bt145.1 bt145.2.1 bt151.1 bt151.2.1 true) else (laws_FnWheels.j0 k l1 (wrap64 (1 + t139)) (wrap64 (1 + t140)) (wrap64 (8 + t141)) bt142.2.2 bt145.1 bt145.2.1 bt151.1 bt151.2.1 (decide (bt151.2.1 > (wrap64 (8 + t141)))))))) else (laws_FnWheels.j0 k l1 (wrap64 (1 + t139)) (wrap64 (1 + t140)) (wrap64 (8 + t141)) bt142.2.2 bt145.1 bt145.2.1 bt151.1 bt151.2.1 true)) else (laws_FnWheels.j0 k l1 (wrap64 (1 + t139)) (wrap64 (1 + t140)) (wrap64 (8 + t141)) bt142.2.2 bt145.1 bt145.2.1 bt151.1 bt151.2.1 true)) else (laws_FnWheels.j0 k l1 (wrap64 (1 + t139)) (wrap64 (1 + t140)) (wrap64 (8 + t141)) bt142.2.2 bt145.1 bt145.2.1 bt151.1 bt151.2.1 true)) else (laws_FnWheels.j0 k l1 (wrap64 (1 + t139)) (wrap64 (1 + t140)) (wrap64 (8 + t141)) bt142.2.2 bt145.1 bt145.2.1 bt151.1 bt151.2.1 true)) else (laws_FnWheels.j0 k l1 (wrap64 (1 + t139)) (wrap64 (1 + t140)) (wrap64 (8 + t141)) bt142.2.2 bt145.1 bt145.2.1 bt151.1 bt151.2.1 true)) else (laws_FnWheels.j0 k l1 (wrap64 (1 + t139)) (wrap64 (1 + t140)) (wrap64 (8 + t141)) bt142.2.2 bt145.1 bt145.2.1 bt151.1 bt151.2.1 true)) else (laws_FnWheels.j0 k l1 (wrap64 (1 + t139)) (wrap64 (1 + t140)) (wrap64 (8 + t141)) bt142.2.2 bt145.1 bt145.2.1 bt151.1 bt151.2.1 true))))))))))) = some r := h
  clear h
  replace H := Option.bind_eq_some_iff.mp H
  obtain ⟨t138, A30, H⟩ := H
  replace H : (if t138 = true then (some true) else ((laws_a2At.f l0 0 100).bind fun t139 => ((laws_a2At.f l0 1 100).bind fun t140 => ((laws_a2At.f l1 0 40).bind fun t141 => ((impl_WheelsFor.f k (wrap64 (1 + t139)) (wrap64 (1 + t140))).bind fun bt142 => ((spec_WheelsFor.f k (wrap64 (1 + t139)) (wrap64 (1 + t140))).bind fun bt145 => ((impl_NearestWheels.f k (wrap64 (1 + t139)) (wrap64 (1 + t140)) (wrap64 (8 + t141))).bind fun bt148 => ((spec_NearestWheels.f k (wrap64 (1 + t139)) (wrap64 (1 + t140)) (wrap64 (8 + t141))).bind fun bt151 => (if bt142.2.2 = bt145.2.2 then (if bt142.1 = bt145.1 then (if bt142.2.1 = bt145.2.1 then (if bt148.2.2 = bt151.2.2 then (if bt148.2.2 = 0 then (if bt148.1 = bt151.1 then (if bt148.2.1 = bt151.2.1 then (if bt151.1 < 8 then (laws_FnWheels.j0 k l1 (wrap64 (1 + t139)) (wrap64 (1 + t140)) (wrap64 (8 + t141)) bt142.2.2 bt145.1 bt145.2.1 bt151.1 bt151.2.1 true) else (if bt151.1 > (wrap64 (8 + t141)) then (laws_FnWheels.j0 k l1 (wrap64 (1 + t139)) (wrap64 (1 + t140)) (wrap64 (8 + t141)) bt142.2.2 bt145.1 bt145.2.1 bt151.1 bt151.2.1 true) else (if bt151.2.1 < 8 then (laws_FnWheels.j0 k l1 (wrap64 (1 + t139)) (wrap64 (1 + t140)) (wrap64 (8 + t141)) bt142.2.2 bt145.1 bt145.2.1 bt151.1 bt151.2.1 true) else (laws_FnWheels.j0 k l1 (wrap64 (1 + t139)) (wrap64 (1 + t140)) (wrap64 (8 + t141)) bt142.2.2 bt145.1 bt145.2.1 bt151.1 bt151.2.1 (decide (bt151.2.1 > (wrap64 (8 + t141)))))))) else (laws_FnWheels.j0 k l1 (wrap64 (1 + t139)) (wrap64 (1 + t140)) (wrap64 (8 + t141)) bt142.2.2 bt145.1 bt145.2.1 bt151.1 bt151.2.1 true)) else (laws_FnWheels.j0 k l1 (wrap64 (1 + t139)) (wrap64 (1 + t140)) (wrap64 (8 + t141)) bt142.2.2 bt145.1 bt145.2.1 bt151.1 bt151.2.1 true)) else (laws_FnWheels.j0 k l1 (wrap64 (1 + t139)) (wrap64 (1 + t140)) (wrap64 (8 + t141)) bt142.2.2 bt145.1 bt145.2.1 bt151.1 bt151.2.1 true)) else (laws_FnWheels.j0 k l1 (wrap64 (1 + t139)) (wrap64 (1 + t140)) (wrap64 (8 + t141)) bt142.2.2 bt145.1 bt145.2.1 bt151.1 bt151.2.1 true)) else (laws_FnWheels.j0 k l1 (wrap64 (1 + t139)) (wrap64 (1 + t140)) (wrap64 (8 + t141)) bt142.2.2 bt145.1 bt145.2.1 bt151.1 bt151.2.1 true)) else (laws_FnWheels.j0 k l1 (wrap64 (1 + t139)) (wrap64 (1 + t140)) (wrap64 (8 + t141)) bt142.2.2 bt145.1 bt145.2.1 bt151.1 bt151.2.1 true)) else (laws_FnWheels.j0 k l1 (wrap64 (1 + t139)) (wrap64 (1 + t140)) (wrap64 (8 + t141)) bt142.2.2 bt145.1 bt145.2.1 bt151.1 bt151.2.1 true)))))))))) = some r := H
  have A3 := Aside0.mk A30
  clear A30
  by_cases c4 : t138 = true
  · subst c4
    have H1 : (some true) = some r := by rw [if_pos rfl] at H; exact H
    clear H
    have H := H1
    clear H1
    as_aux_lemma =>
      obtain rfl := Option.some.inj H
      go_enter Try.func8, Try.ntmps8
      go_wp2_with (first | ((with_reducible refine gate_callee (f := 27) rfl ?_); refine goesL_ (some 26) rfl rfl Try.func27 (by kernel_rfl) rfl #[.slice A0 l0.length c0, .slice A1 l1.length c1] rfl (by (try simp only [List.map_toArray, List.map_cons, List.map_nil]); first | done | rfl | (simp only [List.length_drop, List.length_take]; rfl)) ?_; (with_reducible refine (laws_a2Long.calls _ _ l0 _ _ l1 true _ ?side1 ?side2 ?side3 ?side4 A3.out).mono ?_); (case side1 => repeat (first | exact HR0.out | (with_reducible refine Kd.C_alloc ?_ _) | (with_reducible refine Kd.C_drewN ?_ _) | (with_reducible refine Kd.C_drew ?_))); (case side2 => exact HC0.out); (case side3 => repeat (first | exact HR1.out | (with_reducible refine Kd.C_alloc ?_ _) | (with_reducible refine Kd.C_drewN ?_ _) | (with_reducible refine Kd.C_drew ?_))); (case side4 => exact HC1.out); rintro e w' ⟨rfl, ⟨nd, rfl⟩⟩; refine ⟨_, rfl, ?_⟩))
      go_ret
      exact ⟨by first | rfl | (simp [errW_none, errW_some] <;> rfl) | (simp [*, errW_none, errW_some] <;> rfl), by repeat (first | (with_reducible first | exact HB.out | apply below_alloc | apply pw_below_drewN | apply below_drew1) | exact HB.out)⟩
  · replace c4 := Bool.eq_false_iff.mpr c4
    subst c4
    have H1 : ((laws_a2At.f l0 0 100).bind fun t139 => ((laws_a2At.f l0 1 100).bind fun t140 => ((laws_a2At.f l1 0 40).bind fun t141 => ((impl_WheelsFor.f k (wrap64 (1 + t139)) (wrap64 (1 + t140))).bind fun bt142 => ((spec_WheelsFor.f k (wrap64 (1 + t139)) (wrap64 (1 + t140))).bind fun bt145 => ((impl_NearestWheels.f k (wrap64 (1 + t139)) (wrap64 (1 + t140)) (wrap64 (8 + t141))).bind fun bt148 => ((spec_NearestWheels.f k (wrap64 (1 + t139)) (wrap64 (1 + t140)) (wrap64 (8 + t141))).bind fun bt151 => (if bt142.2.2 = bt145.2.2 then (if bt142.1 = bt145.1 then (if bt142.2.1 = bt145.2.1 then (if bt148.2.2 = bt151.2.2 then (if bt148.2.2 = 0 then (if bt148.1 = bt151.1 then (if bt148.2.1 = bt151.2.1 then (if bt151.1 < 8 then (laws_FnWheels.j0 k l1 (wrap64 (1 + t139)) (wrap64 (1 + t140)) (wrap64 (8 + t141)) bt142.2.2 bt145.1 bt145.2.1 bt151.1 bt151.2.1 true) else (if bt151.1 > (wrap64 (8 + t141)) then (laws_FnWheels.j0 k l1 (wrap64 (1 + t139)) (wrap64 (1 + t140)) (wrap64 (8 + t141)) bt142.2.2 bt145.1 bt145.2.1 bt151.1 bt151.2.1 true) else (if bt151.2.1 < 8 then (laws_FnWheels.j0 k l1 (wrap64 (1 + t139)) (wrap64 (1 + t140)) (wrap64 (8 + t141)) bt142.2.2 bt145.1 bt145.2.1 bt151.1 bt151.2.1 true) else (laws_FnWheels.j0 k l1 (wrap64 (1 + t139)) (wrap64 (1 + t140)) (wrap64 (8 + t141)) bt142.2.2 bt145.1 bt145.2.1 bt151.1 bt151.2.1 (decide (bt151.2.1 > (wrap64 (8 + t141)))))))) else (laws_FnWheels.j0 k l1 (wrap64 (1 + t139)) (wrap64 (1 + t140)) (wrap64 (8 + t141)) bt142.2.2 bt145.1 bt145.2.1 bt151.1 bt151.2.1 true)) else (laws_FnWheels.j0 k l1 (wrap64 (1 + t139)) (wrap64 (1 + t140)) (wrap64 (8 + t141)) bt142.2.2 bt145.1 bt145.2.1 bt151.1 bt151.2.1 true)) else (laws_FnWheels.j0 k l1 (wrap64 (1 + t139)) (wrap64 (1 + t140)) (wrap64 (8 + t141)) bt142.2.2 bt145.1 bt145.2.1 bt151.1 bt151.2.1 true)) else (laws_FnWheels.j0 k l1 (wrap64 (1 + t139)) (wrap64 (1 + t140)) (wrap64 (8 + t141)) bt142.2.2 bt145.1 bt145.2.1 bt151.1 bt151.2.1 true)) else (laws_FnWheels.j0 k l1 (wrap64 (1 + t139)) (wrap64 (1 + t140)) (wrap64 (8 + t141)) bt142.2.2 bt145.1 bt145.2.1 bt151.1 bt151.2.1 true)) else (laws_FnWheels.j0 k l1 (wrap64 (1 + t139)) (wrap64 (1 + t140)) (wrap64 (8 + t141)) bt142.2.2 bt145.1 bt145.2.1 bt151.1 bt151.2.1 true)) else (laws_FnWheels.j0 k l1 (wrap64 (1 + t139)) (wrap64 (1 + t140)) (wrap64 (8 + t141)) bt142.2.2 bt145.1 bt145.2.1 bt151.1 bt151.2.1 true))))))))) = some r := by rw [if_neg (show ¬ (false = true) by decide)] at H; exact H
    clear H
    have H := H1
    clear H1
    replace H := Option.bind_eq_some_iff.mp H
    obtain ⟨t139, A50, H⟩ := H
    replace H : ((laws_a2At.f l0 1 100).bind fun t140 => ((laws_a2At.f l1 0 40).bind fun t141 => ((impl_WheelsFor.f k (wrap64 (1 + t139)) (wrap64 (1 + t140))).bind fun bt142 => ((spec_WheelsFor.f k (wrap64 (1 + t139)) (wrap64 (1 + t140))).bind fun bt145 => ((impl_NearestWheels.f k (wrap64 (1 + t139)) (wrap64 (1 + t140)) (wrap64 (8 + t141))).bind fun bt148 => ((spec_NearestWheels.f k (wrap64 (1 + t139)) (wrap64 (1 + t140)) (wrap64 (8 + t141))).bind fun bt151 => (if bt142.2.2 = bt145.2.2 then (if bt142.1 = bt145.1 then (if bt142.2.1 = bt145.2.1 then (if bt148.2.2 = bt151.2.2 then (if bt148.2.2 = 0 then (if bt148.1 = bt151.1 then (if bt148.2.1 = bt151.2.1 then (if bt151.1 < 8 then (laws_FnWheels.j0 k l1 (wrap64 (1 + t139)) (wrap64 (1 + t140)) (wrap64 (8 + t141)) bt142.2.2 bt145.1 bt145.2.1 bt151.1 bt151.2.1 true) else (if bt151.1 > (wrap64 (8 + t141)) then (laws_FnWheels.j0 k l1 (wrap64 (1 + t139)) (wrap64 (1 + t140)) (wrap64 (8 + t141)) bt142.2.2 bt145.1 bt145.2.1 bt151.1 bt151.2.1 true) else (if bt151.2.1 < 8 then (laws_FnWheels.j0 k l1 (wrap64 (1 + t139)) (wrap64 (1 + t140)) (wrap64 (8 + t141)) bt142.2.2 bt145.1 bt145.2.1 bt151.1 bt151.2.1 true) else (laws_FnWheels.j0 k l1 (wrap64 (1 + t139)) (wrap64 (1 + t140)) (wrap64 (8 + t141)) bt142.2.2 bt145.1 bt145.2.1 bt151.1 bt151.2.1 (decide (bt151.2.1 > (wrap64 (8 + t141)))))))) else (laws_FnWheels.j0 k l1 (wrap64 (1 + t139)) (wrap64 (1 + t140)) (wrap64 (8 + t141)) bt142.2.2 bt145.1 bt145.2.1 bt151.1 bt151.2.1 true)) else (laws_FnWheels.j0 k l1 (wrap64 (1 + t139)) (wrap64 (1 + t140)) (wrap64 (8 + t141)) bt142.2.2 bt145.1 bt145.2.1 bt151.1 bt151.2.1 true)) else (laws_FnWheels.j0 k l1 (wrap64 (1 + t139)) (wrap64 (1 + t140)) (wrap64 (8 + t141)) bt142.2.2 bt145.1 bt145.2.1 bt151.1 bt151.2.1 true)) else (laws_FnWheels.j0 k l1 (wrap64 (1 + t139)) (wrap64 (1 + t140)) (wrap64 (8 + t141)) bt142.2.2 bt145.1 bt145.2.1 bt151.1 bt151.2.1 true)) else (laws_FnWheels.j0 k l1 (wrap64 (1 + t139)) (wrap64 (1 + t140)) (wrap64 (8 + t141)) bt142.2.2 bt145.1 bt145.2.1 bt151.1 bt151.2.1 true)) else (laws_FnWheels.j0 k l1 (wrap64 (1 + t139)) (wrap64 (1 + t140)) (wrap64 (8 + t141)) bt142.2.2 bt145.1 bt145.2.1 bt151.1 bt151.2.1 true)) else (laws_FnWheels.j0 k l1 (wrap64 (1 + t139)) (wrap64 (1 + t140)) (wrap64 (8 + t141)) bt142.2.2 bt145.1 bt145.2.1 bt151.1 bt151.2.1 true)))))))) = some r := H
    have A5 := Aside0.mk A50
    clear A50
    replace H := Option.bind_eq_some_iff.mp H
    obtain ⟨t140, A60, H⟩ := H
    replace H : ((laws_a2At.f l1 0 40).bind fun t141 => ((impl_WheelsFor.f k (wrap64 (1 + t139)) (wrap64 (1 + t140))).bind fun bt142 => ((spec_WheelsFor.f k (wrap64 (1 + t139)) (wrap64 (1 + t140))).bind fun bt145 => ((impl_NearestWheels.f k (wrap64 (1 + t139)) (wrap64 (1 + t140)) (wrap64 (8 + t141))).bind fun bt148 => ((spec_NearestWheels.f k (wrap64 (1 + t139)) (wrap64 (1 + t140)) (wrap64 (8 + t141))).bind fun bt151 => (if bt142.2.2 = bt145.2.2 then (if bt142.1 = bt145.1 then (if bt142.2.1 = bt145.2.1 then (if bt148.2.2 = bt151.2.2 then (if bt148.2.2 = 0 then (if bt148.1 = bt151.1 then (if bt148.2.1 = bt151.2.1 then (if bt151.1 < 8 then (laws_FnWheels.j0 k l1 (wrap64 (1 + t139)) (wrap64 (1 + t140)) (wrap64 (8 + t141)) bt142.2.2 bt145.1 bt145.2.1 bt151.1 bt151.2.1 true) else (if bt151.1 > (wrap64 (8 + t141)) then (laws_FnWheels.j0 k l1 (wrap64 (1 + t139)) (wrap64 (1 + t140)) (wrap64 (8 + t141)) bt142.2.2 bt145.1 bt145.2.1 bt151.1 bt151.2.1 true) else (if bt151.2.1 < 8 then (laws_FnWheels.j0 k l1 (wrap64 (1 + t139)) (wrap64 (1 + t140)) (wrap64 (8 + t141)) bt142.2.2 bt145.1 bt145.2.1 bt151.1 bt151.2.1 true) else (laws_FnWheels.j0 k l1 (wrap64 (1 + t139)) (wrap64 (1 + t140)) (wrap64 (8 + t141)) bt142.2.2 bt145.1 bt145.2.1 bt151.1 bt151.2.1 (decide (bt151.2.1 > (wrap64 (8 + t141)))))))) else (laws_FnWheels.j0 k l1 (wrap64 (1 + t139)) (wrap64 (1 + t140)) (wrap64 (8 + t141)) bt142.2.2 bt145.1 bt145.2.1 bt151.1 bt151.2.1 true)) else (laws_FnWheels.j0 k l1 (wrap64 (1 + t139)) (wrap64 (1 + t140)) (wrap64 (8 + t141)) bt142.2.2 bt145.1 bt145.2.1 bt151.1 bt151.2.1 true)) else (laws_FnWheels.j0 k l1 (wrap64 (1 + t139)) (wrap64 (1 + t140)) (wrap64 (8 + t141)) bt142.2.2 bt145.1 bt145.2.1 bt151.1 bt151.2.1 true)) else (laws_FnWheels.j0 k l1 (wrap64 (1 + t139)) (wrap64 (1 + t140)) (wrap64 (8 + t141)) bt142.2.2 bt145.1 bt145.2.1 bt151.1 bt151.2.1 true)) else (laws_FnWheels.j0 k l1 (wrap64 (1 + t139)) (wrap64 (1 + t140)) (wrap64 (8 + t141)) bt142.2.2 bt145.1 bt145.2.1 bt151.1 bt151.2.1 true)) else (laws_FnWheels.j0 k l1 (wrap64 (1 + t139)) (wrap64 (1 + t140)) (wrap64 (8 + t141)) bt142.2.2 bt145.1 bt145.2.1 bt151.1 bt151.2.1 true)) else (laws_FnWheels.j0 k l1 (wrap64 (1 + t139)) (wrap64 (1 + t140)) (wrap64 (8 + t141)) bt142.2.2 bt145.1 bt145.2.1 bt151.1 bt151.2.1 true))))))) = some r := H
    have A6 := Aside0.mk A60
    clear A60
    replace H := Option.bind_eq_some_iff.mp H
    obtain ⟨t141, A70, H⟩ := H
    replace H : ((impl_WheelsFor.f k (wrap64 (1 + t139)) (wrap64 (1 + t140))).bind fun bt142 => ((spec_WheelsFor.f k (wrap64 (1 + t139)) (wrap64 (1 + t140))).bind fun bt145 => ((impl_NearestWheels.f k (wrap64 (1 + t139)) (wrap64 (1 + t140)) (wrap64 (8 + t141))).bind fun bt148 => ((spec_NearestWheels.f k (wrap64 (1 + t139)) (wrap64 (1 + t140)) (wrap64 (8 + t141))).bind fun bt151 => (if bt142.2.2 = bt145.2.2 then (if bt142.1 = bt145.1 then (if bt142.2.1 = bt145.2.1 then (if bt148.2.2 = bt151.2.2 then (if bt148.2.2 = 0 then (if bt148.1 = bt151.1 then (if bt148.2.1 = bt151.2.1 then (if bt151.1 < 8 then (laws_FnWheels.j0 k l1 (wrap64 (1 + t139)) (wrap64 (1 + t140)) (wrap64 (8 + t141)) bt142.2.2 bt145.1 bt145.2.1 bt151.1 bt151.2.1 true) else (if bt151.1 > (wrap64 (8 + t141)) then (laws_FnWheels.j0 k l1 (wrap64 (1 + t139)) (wrap64 (1 + t140)) (wrap64 (8 + t141)) bt142.2.2 bt145.1 bt145.2.1 bt151.1 bt151.2.1 true) else (if bt151.2.1 < 8 then (laws_FnWheels.j0 k l1 (wrap64 (1 + t139)) (wrap64 (1 + t140)) (wrap64 (8 + t141)) bt142.2.2 bt145.1 bt145.2.1 bt151.1 bt151.2.1 true) else (laws_FnWheels.j0 k l1 (wrap64 (1 + t139)) (wrap64 (1 + t140)) (wrap64 (8 + t141)) bt142.2.2 bt145.1 bt145.2.1 bt151.1 bt151.2.1 (decide (bt151.2.1 > (wrap64 (8 + t141)))))))) else (laws_FnWheels.j0 k l1 (wrap64 (1 + t139)) (wrap64 (1 + t140)) (wrap64 (8 + t141)) bt142.2.2 bt145.1 bt145.2.1 bt151.1 bt151.2.1 true)) else (laws_FnWheels.j0 k l1 (wrap64 (1 + t139)) (wrap64 (1 + t140)) (wrap64 (8 + t141)) bt142.2.2 bt145.1 bt145.2.1 bt151.1 bt151.2.1 true)) else (laws_FnWheels.j0 k l1 (wrap64 (1 + t139)) (wrap64 (1 + t140)) (wrap64 (8 + t141)) bt142.2.2 bt145.1 bt145.2.1 bt151.1 bt151.2.1 true)) else (laws_FnWheels.j0 k l1 (wrap64 (1 + t139)) (wrap64 (1 + t140)) (wrap64 (8 + t141)) bt142.2.2 bt145.1 bt145.2.1 bt151.1 bt151.2.1 true)) else (laws_FnWheels.j0 k l1 (wrap64 (1 + t139)) (wrap64 (1 + t140)) (wrap64 (8 + t141)) bt142.2.2 bt145.1 bt145.2.1 bt151.1 bt151.2.1 true)) else (laws_FnWheels.j0 k l1 (wrap64 (1 + t139)) (wrap64 (1 + t140)) (wrap64 (8 + t141)) bt142.2.2 bt145.1 bt145.2.1 bt151.1 bt151.2.1 true)) else (laws_FnWheels.j0 k l1 (wrap64 (1 + t139)) (wrap64 (1 + t140)) (wrap64 (8 + t141)) bt142.2.2 bt145.1 bt145.2.1 bt151.1 bt151.2.1 true)))))) = some r := H
    have A7 := Aside0.mk A70
    clear A70
    replace H := Option.bind_eq_some_iff.mp H
    obtain ⟨⟨t142, t143, t144⟩, A80, H⟩ := H
    replace H : ((spec_WheelsFor.f k (wrap64 (1 + t139)) (wrap64 (1 + t140))).bind fun bt145 => ((impl_NearestWheels.f k (wrap64 (1 + t139)) (wrap64 (1 + t140)) (wrap64 (8 + t141))).bind fun bt148 => ((spec_NearestWheels.f k (wrap64 (1 + t139)) (wrap64 (1 + t140)) (wrap64 (8 + t141))).bind fun bt151 => (if t144 = bt145.2.2 then (if t142 = bt145.1 then (if t143 = bt145.2.1 then (if bt148.2.2 = bt151.2.2 then (if bt148.2.2 = 0 then (if bt148.1 = bt151.1 then (if bt148.2.1 = bt151.2.1 then (if bt151.1 < 8 then (laws_FnWheels.j0 k l1 (wrap64 (1 + t139)) (wrap64 (1 + t140)) (wrap64 (8 + t141)) t144 bt145.1 bt145.2.1 bt151.1 bt151.2.1 true) else (if bt151.1 > (wrap64 (8 + t141)) then (laws_FnWheels.j0 k l1 (wrap64 (1 + t139)) (wrap64 (1 + t140)) (wrap64 (8 + t141)) t144 bt145.1 bt145.2.1 bt151.1 bt151.2.1 true) else (if bt151.2.1 < 8 then (laws_FnWheels.j0 k l1 (wrap64 (1 + t139)) (wrap64 (1 + t140)) (wrap64 (8 + t141)) t144 bt145.1 bt145.2.1 bt151.1 bt151.2.1 true) else (laws_FnWheels.j0 k l1 (wrap64 (1 + t139)) (wrap64 (1 + t140)) (wrap64 (8 + t141)) t144 bt145.1 bt145.2.1 bt151.1 bt151.2.1 (decide (bt151.2.1 > (wrap64 (8 + t141)))))))) else (laws_FnWheels.j0 k l1 (wrap64 (1 + t139)) (wrap64 (1 + t140)) (wrap64 (8 + t141)) t144 bt145.1 bt145.2.1 bt151.1 bt151.2.1 true)) else (laws_FnWheels.j0 k l1 (wrap64 (1 + t139)) (wrap64 (1 + t140)) (wrap64 (8 + t141)) t144 bt145.1 bt145.2.1 bt151.1 bt151.2.1 true)) else (laws_FnWheels.j0 k l1 (wrap64 (1 + t139)) (wrap64 (1 + t140)) (wrap64 (8 + t141)) t144 bt145.1 bt145.2.1 bt151.1 bt151.2.1 true)) else (laws_FnWheels.j0 k l1 (wrap64 (1 + t139)) (wrap64 (1 + t140)) (wrap64 (8 + t141)) t144 bt145.1 bt145.2.1 bt151.1 bt151.2.1 true)) else (laws_FnWheels.j0 k l1 (wrap64 (1 + t139)) (wrap64 (1 + t140)) (wrap64 (8 + t141)) t144 bt145.1 bt145.2.1 bt151.1 bt151.2.1 true)) else (laws_FnWheels.j0 k l1 (wrap64 (1 + t139)) (wrap64 (1 + t140)) (wrap64 (8 + t141)) t144 bt145.1 bt145.2.1 bt151.1 bt151.2.1 true)) else (laws_FnWheels.j0 k l1 (wrap64 (1 + t139)) (wrap64 (1 + t140)) (wrap64 (8 + t141)) t144 bt145.1 bt145.2.1 bt151.1 bt151.2.1 true))))) = some r := H
    have A8 := Aside0.mk A80
    clear A80
    replace H := Option.bind_eq_some_iff.mp H
    obtain ⟨⟨t145, t146, t147⟩, A90, H⟩ := H
    replace H : ((impl_NearestWheels.f k (wrap64 (1 + t139)) (wrap64 (1 + t140)) (wrap64 (8 + t141))).bind fun bt148 => ((spec_NearestWheels.f k (wrap64 (1 + t139)) (wrap64 (1 + t140)) (wrap64 (8 + t141))).bind fun bt151 => (if t144 = t147 then (if t142 = t145 then (if t143 = t146 then (if bt148.2.2 = bt151.2.2 then (if bt148.2.2 = 0 then (if bt148.1 = bt151.1 then (if bt148.2.1 = bt151.2.1 then (if bt151.1 < 8 then (laws_FnWheels.j0 k l1 (wrap64 (1 + t139)) (wrap64 (1 + t140)) (wrap64 (8 + t141)) t144 t145 t146 bt151.1 bt151.2.1 true) else (if bt151.1 > (wrap64 (8 + t141)) then (laws_FnWheels.j0 k l1 (wrap64 (1 + t139)) (wrap64 (1 + t140)) (wrap64 (8 + t141)) t144 t145 t146 bt151.1 bt151.2.1 true) else (if bt151.2.1 < 8 then (laws_FnWheels.j0 k l1 (wrap64 (1 + t139)) (wrap64 (1 + t140)) (wrap64 (8 + t141)) t144 t145 t146 bt151.1 bt151.2.1 true) else (laws_FnWheels.j0 k l1 (wrap64 (1 + t139)) (wrap64 (1 + t140)) (wrap64 (8 + t141)) t144 t145 t146 bt151.1 bt151.2.1 (decide (bt151.2.1 > (wrap64 (8 + t141)))))))) else (laws_FnWheels.j0 k l1 (wrap64 (1 + t139)) (wrap64 (1 + t140)) (wrap64 (8 + t141)) t144 t145 t146 bt151.1 bt151.2.1 true)) else (laws_FnWheels.j0 k l1 (wrap64 (1 + t139)) (wrap64 (1 + t140)) (wrap64 (8 + t141)) t144 t145 t146 bt151.1 bt151.2.1 true)) else (laws_FnWheels.j0 k l1 (wrap64 (1 + t139)) (wrap64 (1 + t140)) (wrap64 (8 + t141)) t144 t145 t146 bt151.1 bt151.2.1 true)) else (laws_FnWheels.j0 k l1 (wrap64 (1 + t139)) (wrap64 (1 + t140)) (wrap64 (8 + t141)) t144 t145 t146 bt151.1 bt151.2.1 true)) else (laws_FnWheels.j0 k l1 (wrap64 (1 + t139)) (wrap64 (1 + t140)) (wrap64 (8 + t141)) t144 t145 t146 bt151.1 bt151.2.1 true)) else (laws_FnWheels.j0 k l1 (wrap64 (1 + t139)) (wrap64 (1 + t140)) (wrap64 (8 + t141)) t144 t145 t146 bt151.1 bt151.2.1 true)) else (laws_FnWheels.j0 k l1 (wrap64 (1 + t139)) (wrap64 (1 + t140)) (wrap64 (8 + t141)) t144 t145 t146 bt151.1 bt151.2.1 true)))) = some r := H
    have A9 := Aside0.mk A90
    clear A90
    replace H := Option.bind_eq_some_iff.mp H
    obtain ⟨⟨t148, t149, t150⟩, A100, H⟩ := H
    replace H : ((spec_NearestWheels.f k (wrap64 (1 + t139)) (wrap64 (1 + t140)) (wrap64 (8 + t141))).bind fun bt151 => (if t144 = t147 then (if t142 = t145 then (if t143 = t146 then (if t150 = bt151.2.2 then (if t150 = 0 then (if t148 = bt151.1 then (if t149 = bt151.2.1 then (if bt151.1 < 8 then (laws_FnWheels.j0 k l1 (wrap64 (1 + t139)) (wrap64 (1 + t140)) (wrap64 (8 + t141)) t144 t145 t146 bt151.1 bt151.2.1 true) else (if bt151.1 > (wrap64 (8 + t141)) then (laws_FnWheels.j0 k l1 (wrap64 (1 + t139)) (wrap64 (1 + t140)) (wrap64 (8 + t141)) t144 t145 t146 bt151.1 bt151.2.1 true) else (if bt151.2.1 < 8 then (laws_FnWheels.j0 k l1 (wrap64 (1 + t139)) (wrap64 (1 + t140)) (wrap64 (8 + t141)) t144 t145 t146 bt151.1 bt151.2.1 true) else (laws_FnWheels.j0 k l1 (wrap64 (1 + t139)) (wrap64 (1 + t140)) (wrap64 (8 + t141)) t144 t145 t146 bt151.1 bt151.2.1 (decide (bt151.2.1 > (wrap64 (8 + t141)))))))) else (laws_FnWheels.j0 k l1 (wrap64 (1 + t139)) (wrap64 (1 + t140)) (wrap64 (8 + t141)) t144 t145 t146 bt151.1 bt151.2.1 true)) else (laws_FnWheels.j0 k l1 (wrap64 (1 + t139)) (wrap64 (1 + t140)) (wrap64 (8 + t141)) t144 t145 t146 bt151.1 bt151.2.1 true)) else (laws_FnWheels.j0 k l1 (wrap64 (1 + t139)) (wrap64 (1 + t140)) (wrap64 (8 + t141)) t144 t145 t146 bt151.1 bt151.2.1 true)) else (laws_FnWheels.j0 k l1 (wrap64 (1 + t139)) (wrap64 (1 + t140)) (wrap64 (8 + t141)) t144 t145 t146 bt151.1 bt151.2.1 true)) else (laws_FnWheels.j0 k l1 (wrap64 (1 + t139)) (wrap64 (1 + t140)) (wrap64 (8 + t141)) t144 t145 t146 bt151.1 bt151.2.1 true)) else (laws_FnWheels.j0 k l1 (wrap64 (1 + t139)) (wrap64 (1 + t140)) (wrap64 (8 + t141)) t144 t145 t146 bt151.1 bt151.2.1 true)) else (laws_FnWheels.j0 k l1 (wrap64 (1 + t139)) (wrap64 (1 + t140)) (wrap64 (8 + t141)) t144 t145 t146 bt151.1 bt151.2.1 true))) = some r := H
    have A10 := Aside0.mk A100
    clear A100
    replace H := Option.bind_eq_some_iff.mp H
    obtain ⟨⟨t151, t152, t153⟩, A110, H⟩ := H
    replace H : (if t144 = t147 then (if t142 = t145 then (if t143 = t146 then (if t150 = t153 then (if t150 = 0 then (if t148 = t151 then (if t149 = t152 then (if t151 < 8 then (laws_FnWheels.j0 k l1 (wrap64 (1 + t139)) (wrap64 (1 + t140)) (wrap64 (8 + t141)) t144 t145 t146 t151 t152 true) else (if t151 > (wrap64 (8 + t141)) then (laws_FnWheels.j0 k l1 (wrap64 (1 + t139)) (wrap64 (1 + t140)) (wrap64 (8 + t141)) t144 t145 t146 t151 t152 true) else (if t152 < 8 then (laws_FnWheels.j0 k l1 (wrap64 (1 + t139)) (wrap64 (1 + t140)) (wrap64 (8 + t141)) t144 t145 t146 t151 t152 true) else (laws_FnWheels.j0 k l1 (wrap64 (1 + t139)) (wrap64 (1 + t140)) (wrap64 (8 + t141)) t144 t145 t146 t151 t152 (decide (t152 > (wrap64 (8 + t141)))))))) else (laws_FnWheels.j0 k l1 (wrap64 (1 + t139)) (wrap64 (1 + t140)) (wrap64 (8 + t141)) t144 t145 t146 t151 t152 true)) else (laws_FnWheels.j0 k l1 (wrap64 (1 + t139)) (wrap64 (1 + t140)) (wrap64 (8 + t141)) t144 t145 t146 t151 t152 true)) else (laws_FnWheels.j0 k l1 (wrap64 (1 + t139)) (wrap64 (1 + t140)) (wrap64 (8 + t141)) t144 t145 t146 t151 t152 true)) else (laws_FnWheels.j0 k l1 (wrap64 (1 + t139)) (wrap64 (1 + t140)) (wrap64 (8 + t141)) t144 t145 t146 t151 t152 true)) else (laws_FnWheels.j0 k l1 (wrap64 (1 + t139)) (wrap64 (1 + t140)) (wrap64 (8 + t141)) t144 t145 t146 t151 t152 true)) else (laws_FnWheels.j0 k l1 (wrap64 (1 + t139)) (wrap64 (1 + t140)) (wrap64 (8 + t141)) t144 t145 t146 t151 t152 true)) else (laws_FnWheels.j0 k l1 (wrap64 (1 + t139)) (wrap64 (1 + t140)) (wrap64 (8 + t141)) t144 t145 t146 t151 t152 true)) = some r := H
    have A11 := Aside0.mk A110
    clear A110
    have HC12 := Aside0.mk H
    clear H
    go_enter Try.func8, Try.ntmps8
    go_upto_region 10 with (first | ((with_reducible refine gate_callee (f := 27) rfl ?_); refine goesL_ (some 26) rfl rfl Try.func27 (by kernel_rfl) rfl #[.slice A0 l0.length c0, .slice A1 l1.length c1] rfl (by (try simp only [List.map_toArray, List.map_cons, List.map_nil]); first | done | rfl | (simp only [List.length_drop, List.length_take]; rfl)) ?_; (with_reducible refine (laws_a2Long.calls _ _ l0 _ _ l1 false _ ?side1 ?side2 ?side3 ?side4 A3.out).mono ?_); (case side1 => repeat (first | exact HR0.out | (with_reducible refine Kd.C_alloc ?_ _) | (with_reducible refine Kd.C_drewN ?_ _) | (with_reducible refine Kd.C_drew ?_))); (case side2 => exact HC0.out); (case side3 => repeat (first | exact HR1.out | (with_reducible refine Kd.C_alloc ?_ _) | (with_reducible refine Kd.C_drewN ?_ _) | (with_reducible refine Kd.C_drew ?_))); (case side4 => exact HC1.out); rintro e w' ⟨rfl, ⟨nd, rfl⟩⟩; refine ⟨_, rfl, ?_⟩) | ((with_reducible refine gate_callee (f := 28) rfl ?_); refine goesL_ (some 28) rfl rfl Try.func28 (by kernel_rfl) rfl #[.slice A0 l0.length c0, .int .i64 0, .int .i64 100] rfl (by (try simp only [List.map_toArray, List.map_cons, List.map_nil]); first | done | rfl | (simp only [List.length_drop, List.length_take]; rfl)) ?_; (with_reducible refine (laws_a2At.calls _ _ l0 0 100 t139 _ ?side1 ?side2 A5.out).mono ?_); (case side1 => repeat (first | exact HR0.out | (with_reducible refine Kd.C_alloc ?_ _) | (with_reducible refine Kd.C_drewN ?_ _) | (with_reducible refine Kd.C_drew ?_))); (case side2 => exact HC0.out); rintro e w' ⟨rfl, ⟨nd, rfl⟩⟩; refine ⟨_, rfl, ?_⟩) | ((with_reducible refine gate_callee (f := 28) rfl ?_); refine goesL_ (some 31) rfl rfl Try.func28 (by kernel_rfl) rfl #[.slice A0 l0.length c0, .int .i64 1, .int .i64 100] rfl (by (try simp only [List.map_toArray, List.map_cons, List.map_nil]); first | done | rfl | (simp only [List.length_drop, List.length_take]; rfl)) ?_; (with_reducible refine (laws_a2At.calls _ _ l0 1 100 t140 _ ?side1 ?side2 A6.out).mono ?_); (case side1 => repeat (first | exact HR0.out | (with_reducible refine Kd.C_alloc ?_ _) | (with_reducible refine Kd.C_drewN ?_ _) | (with_reducible refine Kd.C_drew ?_))); (case side2 => exact HC0.out); rintro e w' ⟨rfl, ⟨nd, rfl⟩⟩; refine ⟨_, rfl, ?_⟩) | ((with_reducible refine gate_callee (f := 28) rfl ?_); refine goesL_ (some 34) rfl rfl Try.func28 (by kernel_rfl) rfl #[.slice A1 l1.length c1, .int .i64 0, .int .i64 40] rfl (by (try simp only [List.map_toArray, List.map_cons, List.map_nil]); first | done | rfl | (simp only [List.length_drop, List.length_take]; rfl)) ?_; (with_reducible refine (laws_a2At.calls _ _ l1 0 40 t141 _ ?side1 ?side2 A7.out).mono ?_); (case side1 => repeat (first | exact HR1.out | (with_reducible refine Kd.C_alloc ?_ _) | (with_reducible refine Kd.C_drewN ?_ _) | (with_reducible refine Kd.C_drew ?_))); (case side2 => exact HC1.out); rintro e w' ⟨rfl, ⟨nd, rfl⟩⟩; refine ⟨_, rfl, ?_⟩) | ((with_reducible refine gate_callee (f := 29) rfl ?_); refine goesL_ (some 39) rfl rfl Try.func29 (by kernel_rfl) rfl #[.int .i64 (wrap64 (1 + t139)), .int .i64 (wrap64 (1 + t140))] rfl (by (try simp only [List.map_toArray, List.map_cons, List.map_nil]); first | done | rfl | (simp only [List.length_drop, List.length_take]; rfl)) ?_; (with_reducible refine (impl_WheelsFor.calls k (wrap64 (1 + t139)) (wrap64 (1 + t140)) t142 t143 t144 _ A8.out).mono ?_); rintro e w13 ⟨rfl, hb⟩; refine ⟨_, rfl, ?_⟩; have n0_ := Aside0.mk (below_step (by repeat (first | (with_reducible first | exact HB.out | apply below_alloc | apply pw_below_drewN | apply below_drew1) | exact HB.out)) hb); clear HB; have HB := n0_; clear n0_; (try clear hb); (try clear hb2); (try clear hk); (try clear hi)) | ((with_reducible refine gate_callee (f := 30) rfl ?_); refine goesL_ (some 46) rfl rfl Try.func30 (by kernel_rfl) rfl #[.int .i64 (wrap64 (1 + t139)), .int .i64 (wrap64 (1 + t140))] rfl (by (try simp only [List.map_toArray, List.map_cons, List.map_nil]); first | done | rfl | (simp only [List.length_drop, List.length_take]; rfl)) ?_; (with_reducible refine (spec_WheelsFor.calls k (wrap64 (1 + t139)) (wrap64 (1 + t140)) t145 t146 t147 _ A9.out).mono ?_); rintro e w' ⟨rfl, ⟨nd, rfl⟩⟩; refine ⟨_, rfl, ?_⟩) | ((with_reducible refine gate_callee (f := 31) rfl ?_); refine goesL_ (some 54) rfl rfl Try.func31 (by kernel_rfl) rfl #[.int .i64 (wrap64 (1 + t139)), .int .i64 (wrap64 (1 + t140)), .int .i64 (wrap64 (8 + t141))] rfl (by (try simp only [List.map_toArray, List.map_cons, List.map_nil]); first | done | rfl | (simp only [List.length_drop, List.length_take]; rfl)) ?_; (with_reducible refine (impl_NearestWheels.calls k (wrap64 (1 + t139)) (wrap64 (1 + t140)) (wrap64 (8 + t141)) t148 t149 t150 _ A10.out).mono ?_); rintro e w14 ⟨rfl, hb⟩; refine ⟨_, rfl, ?_⟩; have n0_ := Aside0.mk (below_step (by repeat (first | (with_reducible first | exact HB.out | apply below_alloc | apply pw_below_drewN | apply below_drew1) | exact HB.out)) hb); clear HB; have HB := n0_; clear n0_; (try clear hb); (try clear hb2); (try clear hk); (try clear hi)) | ((with_reducible refine gate_callee (f := 32) rfl ?_); refine goesL_ (some 62) rfl rfl Try.func32 (by kernel_rfl) rfl #[.int .i64 (wrap64 (1 + t139)), .int .i64 (wrap64 (1 + t140)), .int .i64 (wrap64 (8 + t141))] rfl (by (try simp only [List.map_toArray, List.map_cons, List.map_nil]); first | done | rfl | (simp only [List.length_drop, List.length_take]; rfl)) ?_; (with_reducible refine (spec_NearestWheels.calls k (wrap64 (1 + t139)) (wrap64 (1 + t140)) (wrap64 (8 + t141)) t151 t152 t153 _ A11.out).mono ?_); rintro e w' ⟨rfl, ⟨nd, rfl⟩⟩; refine ⟨_, rfl, ?_⟩))
    (try simp only [Act.put, List.setIfInBounds_toArray, List.set_cons_zero, List.set_cons_succ])
    go_cut [115] (fun v115 wc => ∃ (kq : Nat) (x115_11 : Bool), v115 = .bool x115_11 ∧ Aside0 (laws_FnWheels.j0 kq l1 (wrap64 (1 + t139)) (wrap64 (1 + t140)) (wrap64 (8 + t141)) t144 t145 t146 t151 t152 x115_11 = some r) ∧ Aside0 (kq ≤ k) ∧ Aside0 (Below w.heap.size w wc))
    case first =>
      have H := HC12.out
      clear HC12
      by_cases c15 : t144 = t147
      · rw [if_pos c15] at H
        have c15b0 : (t144 == t147) = true := beq_iff_eq.mpr c15
        have c15b1 : (t144 != t147) = false := bne_eq_false_iff_eq.mpr c15
        clear c15
        (first | rw [c15b0] | (simp only [i64_w, i32_w]; rw [c15b0]) | skip)
        by_cases c16 : t142 = t145
        · rw [if_pos c16] at H
          have c16b0 : (t142 == t145) = true := beq_iff_eq.mpr c16
          have c16b1 : (t142 != t145) = false := bne_eq_false_iff_eq.mpr c16
          clear c16
          by_cases c17 : t143 = t146
          · rw [if_pos c17] at H
            have c17b0 : (t143 == t146) = true := beq_iff_eq.mpr c17
            have c17b1 : (t143 != t146) = false := bne_eq_false_iff_eq.mpr c17
            clear c17
            by_cases c18 : t150 = t153
            · rw [if_pos c18] at H
              have c18b0 : (t150 == t153) = true := beq_iff_eq.mpr c18
              have c18b1 : (t150 != t153) = false := bne_eq_false_iff_eq.mpr c18
              clear c18
              by_cases c19 : t150 = 0
              · rw [if_pos c19] at H
                have c19b0 : (t150 == 0) = true := beq_iff_eq.mpr c19
                have c19b1 : (t150 != 0) = false := bne_eq_false_iff_eq.mpr c19
                clear c19
                by_cases c20 : t148 = t151
                · rw [if_pos c20] at H
                  have c20b0 : (t148 == t151) = true := beq_iff_eq.mpr c20
                  have c20b1 : (t148 != t151) = false := bne_eq_false_iff_eq.mpr c20
                  clear c20
                  by_cases c21 : t149 = t152
                  · rw [if_pos c21] at H
                    have c21b0 : (t149 == t152) = true := beq_iff_eq.mpr c21
                    have c21b1 : (t149 != t152) = false := bne_eq_false_iff_eq.mpr c21
                    clear c21
                    by_cases c22 : t151 < 8
                    · rw [if_pos c22] at H
                      have c22b0 : decide (t151 < 8) = true := decide_eq_true c22
                      clear c22
                      as_aux_lemma =>
                        have H' := Aside0.mk H
                        clear H
                        go_wp2
                        go_meet
                        case rel => exact ⟨_, (true), (by first | rfl | (simp; done) | (simp [*]; done)), H', ⟨by first | omega | exact Nat.le_refl _⟩, ⟨by repeat (first | (with_reducible first | exact HB.out | apply below_alloc | apply pw_below_drewN | apply below_drew1) | exact HB.out)⟩⟩
                    · rw [if_neg c22] at H
                      have c22b0 : decide (t151 < 8) = false := decide_eq_false c22
                      clear c22
                      by_cases c23 : t151 > (wrap64 (8 + t141))
                      · rw [if_pos c23] at H
                        have c23b0 : decide ((wrap64 (8 + t141)) < t151) = true := decide_eq_true c23
                        clear c23
                        as_aux_lemma =>
                          have H' := Aside0.mk H
                          clear H
                          go_wp2
                          go_meet
                          case rel => exact ⟨_, (true), (by first | rfl | (simp; done) | (simp [*]; done)), H', ⟨by first | omega | exact Nat.le_refl _⟩, ⟨by repeat (first | (with_reducible first | exact HB.out | apply below_alloc | apply pw_below_drewN | apply below_drew1) | exact HB.out)⟩⟩
                      · rw [if_neg c23] at H
                        have c23b0 : decide ((wrap64 (8 + t141)) < t151) = false := decide_eq_false c23
                        clear c23
                        by_cases c24 : t152 < 8
                        · rw [if_pos c24] at H
                          have c24b0 : decide (t152 < 8) = true := decide_eq_true c24
                          clear c24
                          as_aux_lemma =>
                            have H' := Aside0.mk H
                            clear H
                            go_wp2
                            go_meet
                            case rel => exact ⟨_, (true), (by first | rfl | (simp; done) | (simp [*]; done)), H', ⟨by first | omega | exact Nat.le_refl _⟩, ⟨by repeat (first | (with_reducible first | exact HB.out | apply below_alloc | apply pw_below_drewN | apply below_drew1) | exact HB.out)⟩⟩
                        · rw [if_neg c24] at H
                          have c24b0 : decide (t152 < 8) = false := decide_eq_false c24
                          clear c24
                          as_aux_lemma =>
                            have H' := Aside0.mk H
                            clear H
                            go_wp2
                            go_meet
                            case rel => exact ⟨_, (decide (t152 > (wrap64 (8 + t141)))), (by first | rfl | (simp; done) | (simp [*]; done)), H', ⟨by first | omega | exact Nat.le_refl _⟩, ⟨by repeat (first | (with_reducible first | exact HB.out | apply below_alloc | apply pw_below_drewN | apply below_drew1) | exact HB.out)⟩⟩
                  · rw [if_neg c21] at H
                    have c21b0 : (t149 == t152) = false := beq_eq_false_iff_ne.mpr c21
                    have c21b1 : (t149 != t152) = true := bne_iff_ne.mpr c21
                    as_aux_lemma =>
                      have H' := Aside0.mk H
                      clear H
                      go_wp2
                      go_meet
                      case rel => exact ⟨_, (true), (by first | rfl | (simp; done) | (simp [*]; done)), H', ⟨by first | omega | exact Nat.le_refl _⟩, ⟨by repeat (first | (with_reducible first | exact HB.out | apply below_alloc | apply pw_below_drewN | apply below_drew1) | exact HB.out)⟩⟩
                · rw [if_neg c20] at H
                  have c20b0 : (t148 == t151) = false := beq_eq_false_iff_ne.mpr c20
                  have c20b1 : (t148 != t151) = true := bne_iff_ne.mpr c20
                  as_aux_lemma =>
                    have H' := Aside0.mk H
                    clear H
                    go_wp2
                    go_meet
                    case rel => exact ⟨_, (true), (by first | rfl | (simp; done) | (simp [*]; done)), H', ⟨by first | omega | exact Nat.le_refl _⟩, ⟨by repeat (first | (with_reducible first | exact HB.out | apply below_alloc | apply pw_below_drewN | apply below_drew1) | exact HB.out)⟩⟩
              · rw [if_neg c19] at H
                have c19b0 : (t150 == 0) = false := beq_eq_false_iff_ne.mpr c19
                have c19b1 : (t150 != 0) = true := bne_iff_ne.mpr c19
                as_aux_lemma =>
                  have H' := Aside0.mk H
                  clear H
                  go_wp2
                  go_meet
                  case rel => exact ⟨_, (true), (by first | rfl | (simp; done) | (simp [*]; done)), H', ⟨by first | omega | exact Nat.le_refl _⟩, ⟨by repeat (first | (with_reducible first | exact HB.out | apply below_alloc | apply pw_below_drewN | apply below_drew1) | exact HB.out)⟩⟩
            · rw [if_neg c18] at H
              have c18b0 : (t150 == t153) = false := beq_eq_false_iff_ne.mpr c18
              have c18b1 : (t150 != t153) = true := bne_iff_ne.mpr c18
              as_aux_lemma =>
                have H' := Aside0.mk H
                clear H
                go_wp2
                go_meet
                case rel => exact ⟨_, (true), (by first | rfl | (simp; done) | (simp [*]; done)), H', ⟨by first | omega | exact Nat.le_refl _⟩, ⟨by repeat (first | (with_reducible first | exact HB.out | apply below_alloc | apply pw_below_drewN | apply below_drew1) | exact HB.out)⟩⟩
          · rw [if_neg c17] at H
            have c17b0 : (t143 == t146) = false := beq_eq_false_iff_ne.mpr c17
            have c17b1 : (t143 != t146) = true := bne_iff_ne.mpr c17
            as_aux_lemma =>
              have H' := Aside0.mk H
              clear H
              go_wp2
              go_meet
              case rel => exact ⟨_, (true), (by first | rfl | (simp; done) | (simp [*]; done)), H', ⟨by first | omega | exact Nat.le_refl _⟩, ⟨by repeat (first | (with_reducible first | exact HB.out | apply below_alloc | apply pw_below_drewN | apply below_drew1) | exact HB.out)⟩⟩
        · rw [if_neg c16] at H
          have c16b0 : (t142 == t145) = false := beq_eq_false_iff_ne.mpr c16
          have c16b1 : (t142 != t145) = true := bne_iff_ne.mpr c16
          as_aux_lemma =>
            have H' := Aside0.mk H
            clear H
            go_wp2
            go_meet
            case rel => exact ⟨_, (true), (by first | rfl | (simp; done) | (simp [*]; done)), H', ⟨by first | omega | exact Nat.le_refl _⟩, ⟨by repeat (first | (with_reducible first | exact HB.out | apply below_alloc | apply pw_below_drewN | apply below_drew1) | exact HB.out)⟩⟩
      · rw [if_neg c15] at H
        have c15b0 : (t144 == t147) = false := beq_eq_false_iff_ne.mpr c15
        have c15b1 : (t144 != t147) = true := bne_iff_ne.mpr c15
        (first | rw [c15b0] | (simp only [i64_w, i32_w]; rw [c15b0]) | skip)
        as_aux_lemma =>
          have H' := Aside0.mk H
          clear H
          go_wp2
          go_meet
          case rel => exact ⟨_, (true), (by first | rfl | (simp; done) | (simp [*]; done)), H', ⟨by first | omega | exact Nat.le_refl _⟩, ⟨by repeat (first | (with_reducible first | exact HB.out | apply below_alloc | apply pw_below_drewN | apply below_drew1) | exact HB.out)⟩⟩
    case rest =>
      clear HC12
      try clear c1
      try clear c2
      try clear p2
      try clear c3
      try clear c4
      try clear p6
      try clear c8
      try clear c15
      try clear c15b0
      try clear c15b1
      try clear c16
      try clear c16b0
      try clear c16b1
      try clear c17
      try clear c17b0
      try clear c17b1
      try clear c18
      try clear c18b0
      try clear c18b1
      try clear c19
      try clear c19b0
      try clear c19b1
      try clear c20
      try clear c20b0
      try clear c20b1
      try clear c21
      try clear c21b0
      try clear c21b1
      try clear c22
      try clear c22b0
      try clear c23
      try clear c23b0
      try clear c24
      try clear c24b0
      obtain ⟨kq, x115_11, rfl, HA, HJ11, HB⟩ := hcut
      cases kq with
      | zero => exact absurd HA.out (by simp [laws_FnWheels.j0])
      | succ kj11 =>
        have H := HA.out
        clear HA
        simp only [laws_FnWheels.j0] at H
        by_cases c25 : x115_11 = true
        · subst c25
          have H1 : (some false) = some r := by rw [if_pos rfl] at H; exact H
          clear H
          have H := H1
          clear H1
          as_aux_lemma =>
            obtain rfl := Option.some.inj H
            go_wp2
            go_ret
            exact ⟨by first | rfl | (simp [errW_none, errW_some] <;> rfl) | (simp [*, errW_none, errW_some] <;> rfl), by repeat (first | (with_reducible first | exact HB.out | apply below_alloc | apply pw_below_drewN | apply below_drew1) | exact HB.out)⟩
        · replace c25 := Bool.eq_false_iff.mpr c25
          subst c25
          have H1 : (if t144 = 0 then (if (wrap64 (t145 * (wrap64 (1 + t140)))) = (wrap64 (t146 * (wrap64 (1 + t139)))) then (if t145 < 8 then (laws_FnWheels.j1 kj11 l1 (wrap64 (1 + t139)) (wrap64 (1 + t140)) (wrap64 (8 + t141)) t144 t151 t152 true) else (if t145 > 120 then (laws_FnWheels.j1 kj11 l1 (wrap64 (1 + t139)) (wrap64 (1 + t140)) (wrap64 (8 + t141)) t144 t151 t152 true) else (if t146 < 8 then (laws_FnWheels.j1 kj11 l1 (wrap64 (1 + t139)) (wrap64 (1 + t140)) (wrap64 (8 + t141)) t144 t151 t152 true) else (if t146 > 120 then (laws_FnWheels.j1 kj11 l1 (wrap64 (1 + t139)) (wrap64 (1 + t140)) (wrap64 (8 + t141)) t144 t151 t152 true) else (if t145 ≤ (wrap64 (8 + t141)) then (if t146 ≤ (wrap64 (8 + t141)) then (laws_FnWheels.j1 kj11 l1 (wrap64 (1 + t139)) (wrap64 (1 + t140)) (wrap64 (8 + t141)) t144 t151 t152 ((wrap64 (t151 * (wrap64 (1 + t140)))) != (wrap64 (t152 * (wrap64 (1 + t139)))))) else (laws_FnWheels.j1 kj11 l1 (wrap64 (1 + t139)) (wrap64 (1 + t140)) (wrap64 (8 + t141)) t144 t151 t152 false)) else (laws_FnWheels.j1 kj11 l1 (wrap64 (1 + t139)) (wrap64 (1 + t140)) (wrap64 (8 + t141)) t144 t151 t152 false)))))) else (laws_FnWheels.j1 kj11 l1 (wrap64 (1 + t139)) (wrap64 (1 + t140)) (wrap64 (8 + t141)) t144 t151 t152 true)) else (laws_FnWheels.j1 kj11 l1 (wrap64 (1 + t139)) (wrap64 (1 + t140)) (wrap64 (8 + t141)) t144 t151 t152 false)) = some r := by rw [if_neg (show ¬ (false = true) by decide)] at H; exact H
          clear H
          have H := H1
          clear H1
          have HC26 := Aside0.mk H
          clear H
          go_upto_region 12 with (fail)
          go_cut [161] (fun v161 wc => ∃ (kq : Nat) (x161_25 : Bool), v161 = .bool x161_25 ∧ Aside0 (laws_FnWheels.j1 kq l1 (wrap64 (1 + t139)) (wrap64 (1 + t140)) (wrap64 (8 + t141)) t144 t151 t152 x161_25 = some r) ∧ Aside0 (kq ≤ kj11) ∧ Aside0 (Below w.heap.size w wc))
          case first =>
            have H := HC26.out
            clear HC26
            by_cases c27 : t144 = 0
            · rw [if_pos c27] at H
              have c27b0 : (t144 == 0) = true := beq_iff_eq.mpr c27
              have c27b1 : (t144 != 0) = false := bne_eq_false_iff_eq.mpr c27
              clear c27
              (first | rw [c27b0] | (simp only [i64_w, i32_w]; rw [c27b0]) | skip)
              by_cases c28 : (wrap64 (t145 * (wrap64 (1 + t140)))) = (wrap64 (t146 * (wrap64 (1 + t139))))
              · rw [if_pos c28] at H
                have c28b0 : ((wrap64 (t145 * (wrap64 (1 + t140)))) == (wrap64 (t146 * (wrap64 (1 + t139))))) = true := beq_iff_eq.mpr c28
                have c28b1 : ((wrap64 (t145 * (wrap64 (1 + t140)))) != (wrap64 (t146 * (wrap64 (1 + t139))))) = false := bne_eq_false_iff_eq.mpr c28
                clear c28
                by_cases c29 : t145 < 8
                · rw [if_pos c29] at H
                  have c29b0 : decide (t145 < 8) = true := decide_eq_true c29
                  clear c29
                  as_aux_lemma =>
                    have H' := Aside0.mk H
                    clear H
                    go_wp2
                    go_meet
                    case rel => exact ⟨_, (true), (by first | rfl | (simp; done) | (simp [*]; done)), H', ⟨by have := HJ11.out; first | omega | exact Nat.le_refl _⟩, ⟨by repeat (first | (with_reducible first | exact HB.out | apply below_alloc | apply pw_below_drewN | apply below_drew1) | exact HB.out)⟩⟩
                · rw [if_neg c29] at H
                  have c29b0 : decide (t145 < 8) = false := decide_eq_false c29
                  clear c29
                  by_cases c30 : t145 > 120
                  · rw [if_pos c30] at H
                    have c30b0 : decide (120 < t145) = true := decide_eq_true c30
                    clear c30
                    as_aux_lemma =>
                      have H' := Aside0.mk H
                      clear H
                      go_wp2
                      go_meet
                      case rel => exact ⟨_, (true), (by first | rfl | (simp; done) | (simp [*]; done)), H', ⟨by have := HJ11.out; first | omega | exact Nat.le_refl _⟩, ⟨by repeat (first | (with_reducible first | exact HB.out | apply below_alloc | apply pw_below_drewN | apply below_drew1) | exact HB.out)⟩⟩
                  · rw [if_neg c30] at H
                    have c30b0 : decide (120 < t145) = false := decide_eq_false c30
                    clear c30
                    by_cases c31 : t146 < 8
                    · rw [if_pos c31] at H
                      have c31b0 : decide (t146 < 8) = true := decide_eq_true c31
                      clear c31
                      as_aux_lemma =>
                        have H' := Aside0.mk H
                        clear H
                        go_wp2
                        go_meet
                        case rel => exact ⟨_, (true), (by first | rfl | (simp; done) | (simp [*]; done)), H', ⟨by have := HJ11.out; first | omega | exact Nat.le_refl _⟩, ⟨by repeat (first | (with_reducible first | exact HB.out | apply below_alloc | apply pw_below_drewN | apply below_drew1) | exact HB.out)⟩⟩
                    · rw [if_neg c31] at H
                      have c31b0 : decide (t146 < 8) = false := decide_eq_false c31
                      clear c31
                      by_cases c32 : t146 > 120
                      · rw [if_pos c32] at H
                        have c32b0 : decide (120 < t146) = true := decide_eq_true c32
                        clear c32
                        as_aux_lemma =>
                          have H' := Aside0.mk H
                          clear H
                          go_wp2
                          go_meet
                          case rel => exact ⟨_, (true), (by first | rfl | (simp; done) | (simp [*]; done)), H', ⟨by have := HJ11.out; first | omega | exact Nat.le_refl _⟩, ⟨by repeat (first | (with_reducible first | exact HB.out | apply below_alloc | apply pw_below_drewN | apply below_drew1) | exact HB.out)⟩⟩
                      · rw [if_neg c32] at H
                        have c32b0 : decide (120 < t146) = false := decide_eq_false c32
                        clear c32
                        by_cases c33 : t145 ≤ (wrap64 (8 + t141))
                        · rw [if_pos c33] at H
                          have c33b0 : decide (t145 ≤ (wrap64 (8 + t141))) = true := decide_eq_true c33
                          clear c33
                          by_cases c34 : t146 ≤ (wrap64 (8 + t141))
                          · rw [if_pos c34] at H
                            have c34b0 : decide (t146 ≤ (wrap64 (8 + t141))) = true := decide_eq_true c34
                            clear c34
                            as_aux_lemma =>
                              have H' := Aside0.mk H
                              clear H
                              go_wp2
                              go_meet
                              case rel => exact ⟨_, (((wrap64 (t151 * (wrap64 (1 + t140)))) != (wrap64 (t152 * (wrap64 (1 + t139)))))), (by first | rfl | (simp; done) | (simp [*]; done)), H', ⟨by have := HJ11.out; first | omega | exact Nat.le_refl _⟩, ⟨by repeat (first | (with_reducible first | exact HB.out | apply below_alloc | apply pw_below_drewN | apply below_drew1) | exact HB.out)⟩⟩
                          · rw [if_neg c34] at H
                            have c34b0 : decide (t146 ≤ (wrap64 (8 + t141))) = false := decide_eq_false c34
                            clear c34
                            as_aux_lemma =>
                              have H' := Aside0.mk H
                              clear H
                              go_wp2
                              go_meet
                              case rel => exact ⟨_, (false), (by first | rfl | (simp; done) | (simp [*]; done)), H', ⟨by have := HJ11.out; first | omega | exact Nat.le_refl _⟩, ⟨by repeat (first | (with_reducible first | exact HB.out | apply below_alloc | apply pw_below_drewN | apply below_drew1) | exact HB.out)⟩⟩
                        · rw [if_neg c33] at H
                          have c33b0 : decide (t145 ≤ (wrap64 (8 + t141))) = false := decide_eq_false c33
                          clear c33
                          as_aux_lemma =>
                            have H' := Aside0.mk H
                            clear H
                            go_wp2
                            go_meet
                            case rel => exact ⟨_, (false), (by first | rfl | (simp; done) | (simp [*]; done)), H', ⟨by have := HJ11.out; first | omega | exact Nat.le_refl _⟩, ⟨by repeat (first | (with_reducible first | exact HB.out | apply below_alloc | apply pw_below_drewN | apply below_drew1) | exact HB.out)⟩⟩
              · rw [if_neg c28] at H
                have c28b0 : ((wrap64 (t145 * (wrap64 (1 + t140)))) == (wrap64 (t146 * (wrap64 (1 + t139))))) = false := beq_eq_false_iff_ne.mpr c28
                have c28b1 : ((wrap64 (t145 * (wrap64 (1 + t140)))) != (wrap64 (t146 * (wrap64 (1 + t139))))) = true := bne_iff_ne.mpr c28
                as_aux_lemma =>
                  have H' := Aside0.mk H
                  clear H
                  go_wp2
                  go_meet
                  case rel => exact ⟨_, (true), (by first | rfl | (simp; done) | (simp [*]; done)), H', ⟨by have := HJ11.out; first | omega | exact Nat.le_refl _⟩, ⟨by repeat (first | (with_reducible first | exact HB.out | apply below_alloc | apply pw_below_drewN | apply below_drew1) | exact HB.out)⟩⟩
            · rw [if_neg c27] at H
              have c27b0 : (t144 == 0) = false := beq_eq_false_iff_ne.mpr c27
              have c27b1 : (t144 != 0) = true := bne_iff_ne.mpr c27
              (first | rw [c27b0] | (simp only [i64_w, i32_w]; rw [c27b0]) | skip)
              as_aux_lemma =>
                have H' := Aside0.mk H
                clear H
                go_wp2
                go_meet
                case rel => exact ⟨_, (false), (by first | rfl | (simp; done) | (simp [*]; done)), H', ⟨by have := HJ11.out; first | omega | exact Nat.le_refl _⟩, ⟨by repeat (first | (with_reducible first | exact HB.out | apply below_alloc | apply pw_below_drewN | apply below_drew1) | exact HB.out)⟩⟩
          case rest =>
            clear HC26
            try clear c1
            try clear c2
            try clear p2
            try clear c3
            try clear c4
            try clear p6
            try clear c8
            try clear c15
            try clear c15b0
            try clear c15b1
            try clear c16
            try clear c16b0
            try clear c16b1
            try clear c17
            try clear c17b0
            try clear c17b1
            try clear c18
            try clear c18b0
            try clear c18b1
            try clear c19
            try clear c19b0
            try clear c19b1
            try clear c20
            try clear c20b0
            try clear c20b1
            try clear c21
            try clear c21b0
            try clear c21b1
            try clear c22
            try clear c22b0
            try clear c23
            try clear c23b0
            try clear c24
            try clear c24b0
            try clear c25
            try clear c27
            try clear c27b0
            try clear c27b1
            try clear c28
            try clear c28b0
            try clear c28b1
            try clear c29
            try clear c29b0
            try clear c30
            try clear c30b0
            try clear c31
            try clear c31b0
            try clear c32
            try clear c32b0
            try clear c33
            try clear c33b0
            try clear c34
            try clear c34b0
            try clear p2
            try clear p6
            obtain ⟨kq, x161_25, rfl, HA, HJ25, HB⟩ := hcut
            cases kq with
            | zero => exact absurd HA.out (by simp [laws_FnWheels.j1])
            | succ kj25 =>
              have H := HA.out
              clear HA
              simp only [laws_FnWheels.j1] at H
              by_cases c35 : x161_25 = true
              · subst c35
                have H1 : (some false) = some r := by rw [if_pos rfl] at H; exact H
                clear H
                have H := H1
                clear H1
                as_aux_lemma =>
                  obtain rfl := Option.some.inj H
                  go_wp2
                  go_ret
                  exact ⟨by first | rfl | (simp [errW_none, errW_some] <;> rfl) | (simp [*, errW_none, errW_some] <;> rfl), by repeat (first | (with_reducible first | exact HB.out | apply below_alloc | apply pw_below_drewN | apply below_drew1) | exact HB.out)⟩
              · replace c35 := Bool.eq_false_iff.mpr c35
                subst c35
                have H1 : (if t144 = 0 then (laws_FnWheels.j2 kj25 l1 (wrap64 (1 + t139)) (wrap64 (1 + t140)) (wrap64 (8 + t141)) t151 t152 false) else (laws_FnWheels.j2 kj25 l1 (wrap64 (1 + t139)) (wrap64 (1 + t140)) (wrap64 (8 + t141)) t151 t152 (t144 != 6))) = some r := by rw [if_neg (show ¬ (false = true) by decide)] at H; exact H
                clear H
                have H := H1
                clear H1
                have HC36 := Aside0.mk H
                clear H
                go_upto_region 14 with (fail)
                go_cut [167] (fun v167 wc => ∃ (kq : Nat) (x167_35 : Bool), v167 = .bool x167_35 ∧ Aside0 (laws_FnWheels.j2 kq l1 (wrap64 (1 + t139)) (wrap64 (1 + t140)) (wrap64 (8 + t141)) t151 t152 x167_35 = some r) ∧ Aside0 (kq ≤ kj25) ∧ Aside0 (Below w.heap.size w wc))
                case first =>
                  have H := HC36.out
                  clear HC36
                  by_cases c37 : t144 = 0
                  · rw [if_pos c37] at H
                    have c37b0 : (t144 == 0) = true := beq_iff_eq.mpr c37
                    have c37b1 : (t144 != 0) = false := bne_eq_false_iff_eq.mpr c37
                    clear c37
                    (first | rw [c37b0] | (simp only [i64_w, i32_w]; rw [c37b0]) | skip)
                    as_aux_lemma =>
                      have H' := Aside0.mk H
                      clear H
                      go_wp2
                      go_meet
                      case rel => exact ⟨_, (false), (by first | rfl | (simp; done) | (simp [*]; done)), H', ⟨by have := HJ11.out; have := HJ25.out; first | omega | exact Nat.le_refl _⟩, ⟨by repeat (first | (with_reducible first | exact HB.out | apply below_alloc | apply pw_below_drewN | apply below_drew1) | exact HB.out)⟩⟩
                  · rw [if_neg c37] at H
                    have c37b0 : (t144 == 0) = false := beq_eq_false_iff_ne.mpr c37
                    have c37b1 : (t144 != 0) = true := bne_iff_ne.mpr c37
                    (first | rw [c37b0] | (simp only [i64_w, i32_w]; rw [c37b0]) | skip)
                    as_aux_lemma =>
                      have H' := Aside0.mk H
                      clear H
                      go_wp2
                      go_meet
                      case rel => exact ⟨_, ((t144 != 6)), (by first | rfl | (simp; done) | (simp [*]; done)), H', ⟨by have := HJ11.out; have := HJ25.out; first | omega | exact Nat.le_refl _⟩, ⟨by repeat (first | (with_reducible first | exact HB.out | apply below_alloc | apply pw_below_drewN | apply below_drew1) | exact HB.out)⟩⟩
                case rest =>
                  clear HC36
                  try clear c1
                  try clear c2
                  try clear p2
                  try clear c3
                  try clear c4
                  try clear p6
                  try clear c8
                  try clear c15
                  try clear c15b0
                  try clear c15b1
                  try clear c16
                  try clear c16b0
                  try clear c16b1
                  try clear c17
                  try clear c17b0
                  try clear c17b1
                  try clear c18
                  try clear c18b0
                  try clear c18b1
                  try clear c19
                  try clear c19b0
                  try clear c19b1
                  try clear c20
                  try clear c20b0
                  try clear c20b1
                  try clear c21
                  try clear c21b0
                  try clear c21b1
                  try clear c22
                  try clear c22b0
                  try clear c23
                  try clear c23b0
                  try clear c24
                  try clear c24b0
                  try clear c25
                  try clear c27
                  try clear c27b0
                  try clear c27b1
                  try clear c28
                  try clear c28b0
                  try clear c28b1
                  try clear c29
                  try clear c29b0
                  try clear c30
                  try clear c30b0
                  try clear c31
                  try clear c31b0
                  try clear c32
                  try clear c32b0
                  try clear c33
                  try clear c33b0
                  try clear c34
                  try clear c34b0
                  try clear c35
                  try clear c37
                  try clear c37b0
                  try clear c37b1
                  try clear p2
                  try clear p6
                  obtain ⟨kq, x167_35, rfl, HA, HJ35, HB⟩ := hcut
                  cases kq with
                  | zero => exact absurd HA.out (by simp [laws_FnWheels.j2])
                  | succ kj35 =>
                    have H := HA.out
                    clear HA
                    simp only [laws_FnWheels.j2] at H
                    by_cases c38 : x167_35 = true
                    · subst c38
                      have H1 : (some false) = some r := by rw [if_pos rfl] at H; exact H
                      clear H
                      have H := H1
                      clear H1
                      as_aux_lemma =>
                        obtain rfl := Option.some.inj H
                        go_wp2
                        go_ret
                        exact ⟨by first | rfl | (simp [errW_none, errW_some] <;> rfl) | (simp [*, errW_none, errW_some] <;> rfl), by repeat (first | (with_reducible first | exact HB.out | apply below_alloc | apply pw_below_drewN | apply below_drew1) | exact HB.out)⟩
                    · replace c38 := Bool.eq_false_iff.mpr c38
                      subst c38
                      have H1 : ((laws_a2At.f l1 1 (wrap64 ((wrap64 (8 + t141)) - 7))).bind fun t154 => ((laws_a2At.f l1 2 (wrap64 ((wrap64 (8 + t141)) - 7))).bind fun t155 => (some (decide ((wrap64 ((mx (wrap64 ((wrap64 (t151 * (wrap64 (1 + t140)))) - (wrap64 (t152 * (wrap64 (1 + t139)))))) (wrap64 ((wrap64 (t152 * (wrap64 (1 + t139)))) - (wrap64 (t151 * (wrap64 (1 + t140))))))) * (wrap64 (8 + t155)))) ≤ (wrap64 ((mx (wrap64 ((wrap64 ((wrap64 (8 + t154)) * (wrap64 (1 + t140)))) - (wrap64 ((wrap64 (8 + t155)) * (wrap64 (1 + t139)))))) (wrap64 ((wrap64 ((wrap64 (8 + t155)) * (wrap64 (1 + t139)))) - (wrap64 ((wrap64 (8 + t154)) * (wrap64 (1 + t140))))))) * t152))))))) = some r := by rw [if_neg (show ¬ (false = true) by decide)] at H; exact H
                      clear H
                      have H := H1
                      clear H1
                      replace H := Option.bind_eq_some_iff.mp H
                      obtain ⟨t154, A390, H⟩ := H
                      replace H : ((laws_a2At.f l1 2 (wrap64 ((wrap64 (8 + t141)) - 7))).bind fun t155 => (some (decide ((wrap64 ((mx (wrap64 ((wrap64 (t151 * (wrap64 (1 + t140)))) - (wrap64 (t152 * (wrap64 (1 + t139)))))) (wrap64 ((wrap64 (t152 * (wrap64 (1 + t139)))) - (wrap64 (t151 * (wrap64 (1 + t140))))))) * (wrap64 (8 + t155)))) ≤ (wrap64 ((mx (wrap64 ((wrap64 ((wrap64 (8 + t154)) * (wrap64 (1 + t140)))) - (wrap64 ((wrap64 (8 + t155)) * (wrap64 (1 + t139)))))) (wrap64 ((wrap64 ((wrap64 (8 + t155)) * (wrap64 (1 + t139)))) - (wrap64 ((wrap64 (8 + t154)) * (wrap64 (1 + t140))))))) * t152)))))) = some r := H
                      have A39 := Aside0.mk A390
                      clear A390
                      replace H := Option.bind_eq_some_iff.mp H
                      obtain ⟨t155, A400, H⟩ := H
                      replace H : (some (decide ((wrap64 ((mx (wrap64 ((wrap64 (t151 * (wrap64 (1 + t140)))) - (wrap64 (t152 * (wrap64 (1 + t139)))))) (wrap64 ((wrap64 (t152 * (wrap64 (1 + t139)))) - (wrap64 (t151 * (wrap64 (1 + t140))))))) * (wrap64 (8 + t155)))) ≤ (wrap64 ((mx (wrap64 ((wrap64 ((wrap64 (8 + t154)) * (wrap64 (1 + t140)))) - (wrap64 ((wrap64 (8 + t155)) * (wrap64 (1 + t139)))))) (wrap64 ((wrap64 ((wrap64 (8 + t155)) * (wrap64 (1 + t139)))) - (wrap64 ((wrap64 (8 + t154)) * (wrap64 (1 + t140))))))) * t152))))) = some r := H
                      have A40 := Aside0.mk A400
                      clear A400
                      obtain ⟨ji41, hji41⟩ : ∃ j_ : Int, (mx (wrap64 ((wrap64 (t151 * (wrap64 (1 + t140)))) - (wrap64 (t152 * (wrap64 (1 + t139)))))) (wrap64 ((wrap64 (t152 * (wrap64 (1 + t139)))) - (wrap64 (t151 * (wrap64 (1 + t140))))))) = j_ := ⟨_, rfl⟩
                      replace H : (some (decide ((wrap64 ((ji41) * (wrap64 (8 + t155)))) ≤ (wrap64 ((mx (wrap64 ((wrap64 ((wrap64 (8 + t154)) * (wrap64 (1 + t140)))) - (wrap64 ((wrap64 (8 + t155)) * (wrap64 (1 + t139)))))) (wrap64 ((wrap64 ((wrap64 (8 + t155)) * (wrap64 (1 + t139)))) - (wrap64 ((wrap64 (8 + t154)) * (wrap64 (1 + t140))))))) * t152))))) = some r := by first | (rw [hji41] at H; exact H) | (simp only [hji41] at H ⊢; exact H)
                      (try rw [hji41] at A39)
                      (try rw [hji41] at A40)
                      have hji41_ : (if (wrap64 ((wrap64 (t151 * (wrap64 (1 + t140)))) - (wrap64 (t152 * (wrap64 (1 + t139)))))) < (wrap64 ((wrap64 (t152 * (wrap64 (1 + t139)))) - (wrap64 (t151 * (wrap64 (1 + t140)))))) then (wrap64 ((wrap64 (t152 * (wrap64 (1 + t139)))) - (wrap64 (t151 * (wrap64 (1 + t140)))))) else (wrap64 ((wrap64 (t151 * (wrap64 (1 + t140)))) - (wrap64 (t152 * (wrap64 (1 + t139))))))) = ji41 := hji41
                      obtain ⟨ji42, hji42⟩ : ∃ j_ : Int, (mx (wrap64 ((wrap64 ((wrap64 (8 + t154)) * (wrap64 (1 + t140)))) - (wrap64 ((wrap64 (8 + t155)) * (wrap64 (1 + t139)))))) (wrap64 ((wrap64 ((wrap64 (8 + t155)) * (wrap64 (1 + t139)))) - (wrap64 ((wrap64 (8 + t154)) * (wrap64 (1 + t140))))))) = j_ := ⟨_, rfl⟩
                      replace H : (some (decide ((wrap64 ((ji41) * (wrap64 (8 + t155)))) ≤ (wrap64 ((ji42) * t152))))) = some r := by first | (rw [hji42] at H; exact H) | (simp only [hji42] at H ⊢; exact H)
                      (try rw [hji42] at A39)
                      (try rw [hji42] at A40)
                      have hji42_ : (if (wrap64 ((wrap64 ((wrap64 (8 + t154)) * (wrap64 (1 + t140)))) - (wrap64 ((wrap64 (8 + t155)) * (wrap64 (1 + t139)))))) < (wrap64 ((wrap64 ((wrap64 (8 + t155)) * (wrap64 (1 + t139)))) - (wrap64 ((wrap64 (8 + t154)) * (wrap64 (1 + t140)))))) then (wrap64 ((wrap64 ((wrap64 (8 + t155)) * (wrap64 (1 + t139)))) - (wrap64 ((wrap64 (8 + t154)) * (wrap64 (1 + t140)))))) else (wrap64 ((wrap64 ((wrap64 (8 + t154)) * (wrap64 (1 + t140)))) - (wrap64 ((wrap64 (8 + t155)) * (wrap64 (1 + t139))))))) = ji42 := hji42
                      as_aux_lemma =>
                        obtain rfl := Option.some.inj H
                        go_wp2_with (first | ((with_reducible refine gate_callee (f := 28) rfl ?_); refine goesL_ (some 171) rfl rfl Try.func28 (by kernel_rfl) rfl #[.slice A1 l1.length c1, .int .i64 1, .int .i64 (wrap64 ((wrap64 (8 + t141)) - 7))] rfl (by (try simp only [List.map_toArray, List.map_cons, List.map_nil]); first | done | rfl | (simp only [List.length_drop, List.length_take]; rfl)) ?_; (with_reducible refine (laws_a2At.calls _ _ l1 1 (wrap64 ((wrap64 (8 + t141)) - 7)) t154 _ ?side1 ?side2 A39.out).mono ?_); (case side1 => repeat (first | exact (Kd.C_below HR1.out HB.out) | (with_reducible refine Kd.C_alloc ?_ _) | (with_reducible refine Kd.C_drewN ?_ _) | (with_reducible refine Kd.C_drew ?_))); (case side2 => exact HC1.out); rintro e w' ⟨rfl, ⟨nd, rfl⟩⟩; refine ⟨_, rfl, ?_⟩) | ((with_reducible refine gate_callee (f := 28) rfl ?_); refine goesL_ (some 176) rfl rfl Try.func28 (by kernel_rfl) rfl #[.slice A1 l1.length c1, .int .i64 2, .int .i64 (wrap64 ((wrap64 (8 + t141)) - 7))] rfl (by (try simp only [List.map_toArray, List.map_cons, List.map_nil]); first | done | rfl | (simp only [List.length_drop, List.length_take]; rfl)) ?_; (with_reducible refine (laws_a2At.calls _ _ l1 2 (wrap64 ((wrap64 (8 + t141)) - 7)) t155 _ ?side1 ?side2 A40.out).mono ?_); (case side1 => repeat (first | exact (Kd.C_below HR1.out (by repeat (first | (with_reducible first | exact HB.out | apply below_alloc | apply pw_below_drewN | apply below_drew1) | exact HB.out))) | (with_reducible refine Kd.C_alloc ?_ _) | (with_reducible refine Kd.C_drewN ?_ _) | (with_reducible refine Kd.C_drew ?_))); (case side2 => exact HC1.out); rintro e w' ⟨rfl, ⟨nd, rfl⟩⟩; refine ⟨_, rfl, ?_⟩))
                        go_ret
                        exact ⟨by first | rfl | (simp [errW_none, errW_some] <;> rfl) | (simp only [← hji41, ← hji42]; first | rfl | (simp [errW_none, errW_some] <;> rfl)) | (simp [*, errW_none, errW_some] <;> rfl), by repeat (first | (with_reducible first | exact HB.out | apply below_alloc | apply pw_below_drewN | apply below_drew1) | exact HB.out)⟩

/-- THE ONE PURE STATEMENT of laws_FnWheels: yours. -/
def laws_FnWheels.Pure : Prop := ∀ (l0 : List Int) (l1 : List Int), l0.length ≤ maxLen → l0.length * 1 ≤ 140737488351232 → (∀ x ∈ l0, (Lit.int .u8 x).wf = true) → l1.length ≤ maxLen → l1.length * 1 ≤ 140737488351232 → (∀ x ∈ l1, (Lit.int .u8 x).wf = true) → ∃ k, laws_FnWheels.f k l0 l1 = some true
theorem laws_FnWheels.walk (P : laws_FnWheels.Pure) (a0 : Option Addr) (len0 cap0 : Nat) (z0 : List Int) (a1 : Option Addr) (len1 cap1 : Nat) (z1 : List Int) (w : World) (w0 : (a0 = none ∧ len0 = 0 ∧ cap0 = 0 ∧ z0 = []) ∨ ∃ x, a0 = some x ∧ len0 ≤ cap0 ∧ cap0 ≤ maxLen ∧ z0.length = cap0 ∧ (∀ i, i < z0.length → w.cell? (x.add i) = some (.int .u8 (z0.getD i 0))) ∧ ∀ n ∈ z0, (Lit.int .u8 n).wf = true) (y0 : len0 * 1 ≤ 140737488351232) (w1 : (a1 = none ∧ len1 = 0 ∧ cap1 = 0 ∧ z1 = []) ∨ ∃ x, a1 = some x ∧ len1 ≤ cap1 ∧ cap1 ≤ maxLen ∧ z1.length = cap1 ∧ (∀ i, i < z1.length → w.cell? (x.add i) = some (.int .u8 (z1.getD i 0))) ∧ ∀ n ∈ z1, (Lit.int .u8 n).wf = true) (y1 : len1 * 1 ≤ 140737488351232) :
    Calls Try.prog 8 #[.slice a0 len0 cap0, .slice a1 len1 cap1] w fun e w' => e = .returned (.bool true) ∧ Below w.heap.size w w' := by
  obtain ⟨l0, rfl, hr0, hm0, hw0, hc0⟩ := ReadsInt.ofRowC w0
  obtain ⟨l1, rfl, hr1, hm1, hw1, hc1⟩ := ReadsInt.ofRowC w1
  obtain ⟨k, h⟩ := P l0 l1 hm0 y0 hw0 hm1 y1 hw1
  refine (laws_FnWheels.calls k _ _ l0 _ _ l1 true w (Kd.C_of_reads (d := (0 : Int)) (h1 := fun _ => rfl) hr0) hc0 (Kd.C_of_reads (d := (0 : Int)) (h1 := fun _ => rfl) hr1) hc1 h).mono ?_
  rintro e w' ⟨rfl, hd⟩
  exact ⟨rfl, hd⟩

end Go.Proofs.Ytkjjmelhnbjoeaa.FFnWheels
