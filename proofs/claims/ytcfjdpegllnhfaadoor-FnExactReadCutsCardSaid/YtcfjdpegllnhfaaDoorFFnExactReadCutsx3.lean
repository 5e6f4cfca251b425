-- Written by fvprint.py, a program of this session over the kit's print. Not trusted: Lean checks it.
import Derived.Test.YtcfjdpegllnhfaaDoorFFnExactReadCutsx0
import Derived.Test.YtcfjdpegllnhfaaDoorFFnExactReadCutsx2
namespace Go.Proofs.YtcfjdpegllnhfaaDoor.FFnExactReadCuts
open Go.RowKit Go.Proofs.YtcfjdpegllnhfaaDoorW.PrintWords Go.Proofs.YtcfjdpegllnhfaaDoorW.PrintLast Go.Proofs.YtcfjdpegllnhfaaDoorW.PrintMore
attribute [local go_sem] max2_int min2_int max_two min_two max_three min_three max_four min_four   -- for this text's walks alone
set_option linter.unusedVariables false
set_option linter.unusedSimpArgs false

/-! ### impl_Cut_c64_76: function 76 -/
def impl_Cut_c64_76.l0 : Nat → List (S62) → Int → Int → List Int → Option (Int)
  | 0, _, _, _, _ => none
  | k + 1, x0, x7, x8, x500 => if x8 < x7 then (if 0 ≤ x8 then (if x8 < (x0.length : Int) then ((impl_areCuts_1.f ((rd_T62 x0 x8).f0) ((rd_T62 x0 x8).f1) ((rd_T62 x0 x8).f2) x500).bind fun t149 => (if t149 = true then (some x8) else (impl_Cut_c64_76.l0 k x0 x7 (wrap64 (x8 + 1)) x500))) else (none)) else (none)) else (some (-1))
def impl_Cut_c64_76.f (k : Nat) (l0 : List (S62)) (l1 : List Int) : Option (Int) := impl_Cut_c64_76.l0 k l0 (l0.length : Int) 0 l1
theorem impl_Cut_c64_76.mono_l : ∀ k, (∀ y0 y1 y2 y3, LeO (impl_Cut_c64_76.l0 k y0 y1 y2 y3) (impl_Cut_c64_76.l0 (k + 1) y0 y1 y2 y3))
  | 0 => fun _ _ _ _ r h => by simp [impl_Cut_c64_76.l0] at h
  | k + 1 => by
    have ih0 := impl_Cut_c64_76.mono_l k
    · intro y0 y1 y2 y3
      unfold impl_Cut_c64_76.l0
      repeat' first
      | (with_reducible exact ih0 _ _ _ _)
      | (with_reducible exact LeO.refl _)
      | (with_reducible exact LeO.none _)
      | (with_reducible refine LeO.ite ?_ ?_)
      | (with_reducible refine LeO.bind ?_ (fun _ => ?_))
      | exact ih0 _ _ _ _
      | exact LeO.none _
      | refine LeO.ite ?_ ?_
      | refine LeO.bind ?_ (fun _ => ?_)
theorem impl_Cut_c64_76.mono : ∀ a0 a1 k, LeO (impl_Cut_c64_76.f k a0 a1) (impl_Cut_c64_76.f (k + 1) a0 a1) := by
  intro a0 a1 k
  have ih0 := impl_Cut_c64_76.mono_l k
  unfold impl_Cut_c64_76.f
  repeat' first
      | (with_reducible exact ih0 _ _ _ _)
      | (with_reducible exact LeO.refl _)
      | (with_reducible exact LeO.none _)
      | (with_reducible refine LeO.ite ?_ ?_)
      | (with_reducible refine LeO.bind ?_ (fun _ => ?_))
      | exact ih0 _ _ _ _
      | exact LeO.none _
      | refine LeO.ite ?_ ?_
      | refine LeO.bind ?_ (fun _ => ?_)
set_option maxHeartbeats 8000000 in
set_option maxRecDepth 100000 in
theorem impl_Cut_c64_76.calls (k : Nat) (A0 : Option Addr) (c0 : Nat) (l0 : List (S62)) (A1 : Option Addr) (c1 : Nat) (l1 : List Int) (r : Int) (w : World) (hr0 : Kd.C k62 w A0 l0.length l0) (hc0 : l0.length ≤ c0) (hr1 : Kd.C (Kd.int .i64) w A1 l1.length l1) (hc1 : l1.length ≤ c1) (h : impl_Cut_c64_76.f k l0 l1 = some r) :
    Calls Tryd.prog 76 #[.slice A0 l0.length c0, .func (.func 64) #[] #[.pointer A1]] w fun e w' => e = .returned (.int .i64 r) ∧ Below w.heap.size w w' := by
  have hu62 := Tryd.underlying62
  have HR0 := Aside0.mk hr0
  have HC0 := Aside0.mk hc0
  clear hr0 hc0
  have HR1 := Aside0.mk hr1
  have HC1 := Aside0.mk hc1
  clear hr1 hc1
  have HB := Aside0.mk (Below.refl w.heap.size w)
  have H : (impl_Cut_c64_76.l0 k l0 (l0.length : Int) 0 l1) = some r := h
  clear h
  have H' := Aside0.mk H
  clear H
  go_enter Tryd.func76, Tryd.ntmps76
  go_wp2
  go_loopg [8] k (fun kq v8 w' => ∃ (x8_1 : Int), v8 = .int .i64 x8_1 ∧ Aside0 (impl_Cut_c64_76.l0 kq l0 (l0.length : Int) x8_1 l1 = some r) ∧ Aside0 (kq ≤ k) ∧ Aside0 (Below w.heap.size w w'))
  case atStart => exact ⟨(0), (by first | rfl | (simp; done) | (simp [*]; done) | (simp [i64_w, i32_w]; done)), H', ⟨Nat.le_refl _⟩, ⟨by repeat (first | (with_reducible first | exact HB.out | apply below_alloc | apply pw_below_drewN | apply below_drew1) | exact HB.out)⟩⟩
  case round =>
    clear H'
    try clear c1
    try clear p2
    obtain ⟨x8_1, rfl, HA, HK1, HB⟩ := hrel
    cases gk with
    | zero => exact absurd HA.out (by simp [impl_Cut_c64_76.l0])
    | succ k1 =>
      have H := HA.out
      clear HA
      simp only [impl_Cut_c64_76.l0] at H
      by_cases c3 : x8_1 < (l0.length : Int)
      · rw [if_pos c3] at H
        have c3b0 : decide (x8_1 < (l0.length : Int)) = true := decide_eq_true c3
        clear c3
        by_cases c4 : 0 ≤ x8_1
        · rw [if_pos c4] at H
          have c4b0 : decide (0 ≤ x8_1) = true := decide_eq_true c4
          clear c4
          by_cases c5 : x8_1 < (l0.length : Int)
          · rw [if_pos c5] at H
            have c5b0 : decide (x8_1 < (l0.length : Int)) = true := decide_eq_true c5
            clear c5
            replace H := Option.bind_eq_some_iff.mp H
            obtain ⟨t149, A60, H⟩ := H
            replace H : (if t149 = true then (some x8_1) else (impl_Cut_c64_76.l0 k1 l0 (l0.length : Int) (wrap64 (x8_1 + 1)) l1)) = some r := H
            have A6 := Aside0.mk A60
            clear A60
            by_cases c7 : t149 = true
            · subst c7
              have H1 : (some x8_1) = some r := by rw [if_pos rfl] at H; exact H
              clear H
              have H := H1
              clear H1
              obtain rfl := Option.some.inj H
              have p148 : 0 ≤ (x8_1 : Int) := of_decide_eq_true (by first | (with_reducible assumption) | assumption)
              have q148 : x8_1 < (l0.length : Int) := of_decide_eq_true (by first | (with_reducible assumption) | assumption)
              obtain ⟨ad148, e148, hx148_0, hx148_1, hx148_2⟩ := at_T62 HR0.out x8_1 p148 q148
              cases e148
              replace hx148_0 := (HB.out.cell (World.block_lt_of_cell? w _ hx148_0)).trans hx148_0
              replace hx148_1 := (HB.out.cell (World.block_lt_of_cell? w _ hx148_1)).trans hx148_1
              replace hx148_2 := (HB.out.cell (World.block_lt_of_cell? w _ hx148_2)).trans hx148_2
              replace p148 := eq_true p148
              replace q148 := eq_true q148
              go_wp2_with (first | (go_at_call 64; (with_reducible refine (impl_areCuts_1.calls ((rd_T62 l0 x8_1).f0) ((rd_T62 l0 x8_1).f1) ((rd_T62 l0 x8_1).f2) _ c1 l1 true _ ?side1 ?side2 A6.out).mono ?_); (case side1 => repeat (first | exact (Kd.C_below HR1.out HB.out) | (with_reducible refine Kd.C_alloc ?_ _) | (with_reducible refine Kd.C_drewN ?_ _) | (with_reducible refine Kd.C_drew ?_))); (case side2 => exact HC1.out); rintro e w8 ⟨rfl, hb⟩; have n0_ := Aside0.mk (below_step (by repeat (first | (with_reducible first | exact HB.out | apply below_alloc | apply pw_below_drewN | apply below_drew1) | exact HB.out)) hb); clear HB; have HB := n0_; clear n0_; (try clear hb); (try clear hb2); (try clear hk); (try clear hi)))
              go_ret
              exact ⟨by first | rfl | (simp [errW_none, errW_some] <;> rfl) | (simp [*, errW_none, errW_some] <;> rfl), by repeat (first | (with_reducible first | exact HB.out | apply below_alloc | apply pw_below_drewN | apply below_drew1) | exact HB.out)⟩
            · replace c7 := Bool.eq_false_iff.mpr c7
              subst c7
              have H1 : (impl_Cut_c64_76.l0 k1 l0 (l0.length : Int) (wrap64 (x8_1 + 1)) l1) = some r := by rw [if_neg (show ¬ (false = true) by decide)] at H; exact H
              clear H
              have H := H1
              clear H1
              have H' := Aside0.mk H
              clear H
              have p148 : 0 ≤ (x8_1 : Int) := of_decide_eq_true (by first | (with_reducible assumption) | assumption)
              have q148 : x8_1 < (l0.length : Int) := of_decide_eq_true (by first | (with_reducible assumption) | assumption)
              obtain ⟨ad148, e148, hx148_0, hx148_1, hx148_2⟩ := at_T62 HR0.out x8_1 p148 q148
              cases e148
              replace hx148_0 := (HB.out.cell (World.block_lt_of_cell? w _ hx148_0)).trans hx148_0
              replace hx148_1 := (HB.out.cell (World.block_lt_of_cell? w _ hx148_1)).trans hx148_1
              replace hx148_2 := (HB.out.cell (World.block_lt_of_cell? w _ hx148_2)).trans hx148_2
              replace p148 := eq_true p148
              replace q148 := eq_true q148
              go_wp2_with (first | (go_at_call 64; (with_reducible refine (impl_areCuts_1.calls ((rd_T62 l0 x8_1).f0) ((rd_T62 l0 x8_1).f1) ((rd_T62 l0 x8_1).f2) _ c1 l1 false _ ?side1 ?side2 A6.out).mono ?_); (case side1 => repeat (first | exact (Kd.C_below HR1.out HB.out) | (with_reducible refine Kd.C_alloc ?_ _) | (with_reducible refine Kd.C_drewN ?_ _) | (with_reducible refine Kd.C_drew ?_))); (case side2 => exact HC1.out); rintro e w9 ⟨rfl, hb⟩; have n0_ := Aside0.mk (below_step (by repeat (first | (with_reducible first | exact HB.out | apply below_alloc | apply pw_below_drewN | apply below_drew1) | exact HB.out)) hb); clear HB; have HB := n0_; clear n0_; (try clear hb); (try clear hb2); (try clear hk); (try clear hi)))
              go_roundg k1
              case measure => have := HK1.out; omega
              case rel => exact ⟨(wrap64 (x8_1 + 1)), (by first | rfl | (simp; done) | (simp [*]; done) | (simp [i64_w, i32_w]; done)), H', ⟨by have := HK1.out; omega⟩, ⟨by repeat (first | (with_reducible first | exact HB.out | apply below_alloc | apply pw_below_drewN | apply below_drew1) | exact HB.out)⟩⟩
          · rw [if_neg c5] at H
            exact absurd H (by simp)
        · rw [if_neg c4] at H
          exact absurd H (by simp)
      · rw [if_neg c3] at H
        have c3b0 : decide (x8_1 < (l0.length : Int)) = false := decide_eq_false c3
        clear c3
        obtain rfl := Option.some.inj H
        go_wp2
        go_ret
        exact ⟨by first | rfl | (simp [errW_none, errW_some] <;> rfl) | (simp [*, errW_none, errW_some] <;> rfl), by repeat (first | (with_reducible first | exact HB.out | apply below_alloc | apply pw_below_drewN | apply below_drew1) | exact HB.out)⟩

/-! ### impl_Cut_c64_63: function 63 -/
def impl_Cut_c64_63.f (k : Nat) (l0 : List (S62)) (l1 : List Int) : Option (Bool) := (impl_Cut_c64_76.f k l0 l1).bind fun t150 => (some (decide (t150 ≥ 0)))
theorem impl_Cut_c64_63.mono : ∀ a0 a1 k, LeO (impl_Cut_c64_63.f k a0 a1) (impl_Cut_c64_63.f (k + 1) a0 a1) := by
  intro a0 a1 k
  unfold impl_Cut_c64_63.f
  repeat' first
      | (with_reducible exact impl_Cut_c64_76.mono _ _ _)
      | (with_reducible exact LeO.refl _)
      | (with_reducible exact LeO.none _)
      | (with_reducible refine LeO.ite ?_ ?_)
      | (with_reducible refine LeO.bind ?_ (fun _ => ?_))
      | exact impl_Cut_c64_76.mono _ _ _
      | exact LeO.none _
      | refine LeO.ite ?_ ?_
      | refine LeO.bind ?_ (fun _ => ?_)
set_option maxHeartbeats 8000000 in
set_option maxRecDepth 100000 in
theorem impl_Cut_c64_63.calls (k : Nat) (A0 : Option Addr) (c0 : Nat) (l0 : List (S62)) (A1 : Option Addr) (c1 : Nat) (l1 : List Int) (r : Bool) (w : World) (hr0 : Kd.C k62 w A0 l0.length l0) (hc0 : l0.length ≤ c0) (hr1 : Kd.C (Kd.int .i64) w A1 l1.length l1) (hc1 : l1.length ≤ c1) (h : impl_Cut_c64_63.f k l0 l1 = some r) :
    Calls Tryd.prog 63 #[.slice A0 l0.length c0, .func (.func 64) #[] #[.pointer A1]] w fun e w' => e = .returned (.bool r) ∧ Below w.heap.size w w' := by
  have HR0 := Aside0.mk hr0
  have HC0 := Aside0.mk hc0
  clear hr0 hc0
  have HR1 := Aside0.mk hr1
  have HC1 := Aside0.mk hc1
  clear hr1 hc1
  have HB := Aside0.mk (Below.refl w.heap.size w)
  have H : ((impl_Cut_c64_76.f k l0 l1).bind fun t150 => (some (decide (t150 ≥ 0)))) = some r := h
  clear h
  replace H := Option.bind_eq_some_iff.mp H
  obtain ⟨t150, A30, H⟩ := H
  replace H : (some (decide (t150 ≥ 0))) = some r := H
  have A3 := Aside0.mk A30
  clear A30
  obtain rfl := Option.some.inj H
  go_enter Tryd.func63, Tryd.ntmps63
  go_wp2_with (first | ((with_reducible refine gate_callee (f := 76) rfl ?_); refine goesL_ (some 7) rfl rfl Tryd.func76 (by kernel_rfl) rfl #[.slice A0 l0.length c0, .func (.func 64) #[] #[.pointer A1]] rfl (by (try simp only [List.map_toArray, List.map_cons, List.map_nil]); first | done | rfl | (simp only [List.length_drop, List.length_take]; rfl)) ?_; (with_reducible refine (impl_Cut_c64_76.calls k _ _ l0 _ c1 l1 t150 _ ?side1 ?side2 ?side3 ?side4 A3.out).mono ?_); (case side1 => repeat (first | exact HR0.out | (with_reducible refine Kd.C_alloc ?_ _) | (with_reducible refine Kd.C_drewN ?_ _) | (with_reducible refine Kd.C_drew ?_))); (case side2 => exact HC0.out); (case side3 => repeat (first | exact HR1.out | (with_reducible refine Kd.C_alloc ?_ _) | (with_reducible refine Kd.C_drewN ?_ _) | (with_reducible refine Kd.C_drew ?_))); (case side4 => exact HC1.out); rintro e w4 ⟨rfl, hb⟩; refine ⟨_, rfl, ?_⟩; have n0_ := Aside0.mk (below_step (by repeat (first | (with_reducible first | exact HB.out | apply below_alloc | apply pw_below_drewN | apply below_drew1) | exact HB.out)) hb); clear HB; have HB := n0_; clear n0_; (try clear hb); (try clear hb2); (try clear hk); (try clear hi)))
  go_ret
  exact ⟨by first | rfl | (simp [errW_none, errW_some] <;> rfl) | (simp [*, errW_none, errW_some] <;> rfl), by repeat (first | (with_reducible first | exact HB.out | apply below_alloc | apply pw_below_drewN | apply below_drew1) | exact HB.out)⟩

/-! ### impl_areCuts: function 42 -/
theorem impl_areCuts.boxI (W : World) (b : Nat) (k : IntKind) (v : Int) (h : W.cell? ⟨b, 0, none⟩ = some (.int k v)) : Kd.C (Kd.int k) W (some ⟨b, 0, none⟩) [v].length [v] := by
  refine ⟨rfl, by simp, fun _ => ⟨_, rfl, fun j p hj => ?_⟩⟩
  match j, hj with
  | 0, hj =>
    obtain rfl : v = p := by simpa using hj
    refine ⟨[.int k v], rfl, rfl, fun i u hu => ?_⟩
    match i, hu with
    | 0, hu => obtain rfl : Value.int k v = u := by simpa using hu
               simpa [Addr.add, Kd.int, Kd.scalar] using h
def impl_areCuts.f (k : Nat) (l0 : List (S62)) (a1 : Int) : Option (Bool) := (if (l0.length : Int) ≤ 400 then ((impl_Cut_c64_63.f k l0 [a1]).bind fun t => (some (!t))) else (some false))
theorem impl_areCuts.mono : ∀ l0 a1 k, LeO (impl_areCuts.f k l0 a1) (impl_areCuts.f (k + 1) l0 a1) := by
  intro l0 a1 k
  unfold impl_areCuts.f
  repeat' first
  | exact impl_Cut_c64_63.mono _ _ k
  | exact LeO.refl _
  | refine LeO.ite ?_ ?_
  | refine LeO.bind ?_ (fun _ => ?_)
set_option maxHeartbeats 8000000 in
set_option maxRecDepth 100000 in
theorem impl_areCuts.calls (k : Nat) (A0 : Option Addr) (c0 : Nat) (l0 : List (S62)) (a1 : Int) (r : Bool) (w : World) (hr0 : Kd.C k62 w A0 l0.length l0) (hc0 : l0.length ≤ c0) (h : impl_areCuts.f k l0 a1 = some r) :
    Calls Tryd.prog 42 #[.slice A0 l0.length c0, .int .i64 a1] w fun e w' => e = .returned (.bool r) ∧ Below w.heap.size w w' := by
  have HB := Aside0.mk (Below.refl w.heap.size w)
  have HR0 := Aside0.mk hr0
  have HC0 := Aside0.mk hc0
  clear hr0 hc0
  unfold impl_areCuts.f at h
  by_cases q : (l0.length : Int) ≤ 400
  rotate_left
  · rw [if_neg q] at h
    have q0 : decide ((l0.length : Int) ≤ 400) = false := decide_eq_false q
    clear q
    obtain rfl := Option.some.inj h
    go_enter Tryd.func42, Tryd.ntmps42
    go_wp2
    go_ret
    exact ⟨rfl, by repeat (first | (with_reducible first | exact HB.out | apply below_alloc | apply pw_below_drewN | apply below_drew1) | exact HB.out)⟩
  rw [if_pos q] at h
  have q0 : decide ((l0.length : Int) ≤ 400) = true := decide_eq_true q
  clear q
  obtain ⟨t, A1, h⟩ := Option.bind_eq_some_iff.mp h
  obtain rfl := Option.some.inj h
  have A1 := Aside0.mk A1
  go_enter Tryd.func42, Tryd.ntmps42
  go_wp2_with (first | (go_at_call 63; (refine (impl_Cut_c64_63.calls k A0 c0 l0 _ 1 [a1] t _ ?s1 ?s2 ?s3 ?s4 A1.out).mono ?_); (case s1 => repeat (first | exact HR0.out | (with_reducible refine Kd.C_alloc ?_ _) | (with_reducible refine Kd.C_drewN ?_ _) | (with_reducible refine Kd.C_drew ?_))); (case s2 => exact HC0.out); (case s3 => exact impl_areCuts.boxI _ _ _ _ (by go_simp)); (case s4 => exact Nat.le_refl _); rintro e w' ⟨rfl, hb⟩; have n1_ := Aside0.mk (below_step (by repeat (first | (with_reducible first | exact HB.out | apply below_alloc | apply pw_below_drewN | apply below_drew1) | exact HB.out)) hb); clear hb))
  go_ret
  exact ⟨by first | rfl | (simp; done), by repeat (first | (with_reducible first | exact n1_.out | apply below_alloc | apply pw_below_drewN | apply below_drew1) | exact n1_.out)⟩


/-! ### impl_decimal: function 38 -/
def impl_decimal.f (a0 : Int) : Option (ByteArray) := if a0 < -9223372036854775808 then none else if a0 ≤ 9223372036854775807 then some ⟨(Lib.itoa a0).toArray⟩ else none
theorem impl_decimal.calls (a0 : Int) (r : ByteArray) (w : World) (htab : WF w) (h : impl_decimal.f a0 = some r) :
    Calls Tryd.prog 38 #[.int .i64 a0] w fun e w' => e = .returned (.string r) ∧ Below w.heap.size w w' := by
  unfold impl_decimal.f at h
  split at h
  · exact absurd h (by simp)
  · split at h
    · obtain rfl := Option.some.inj h
      refine (decimal_w a0 (by omega) (by omega) w htab.tab).mono ?_
      rintro e w' ⟨rfl, k, os, rfl⟩
      exact ⟨rfl, below_drewgrow w k os⟩
    · exact absurd h (by simp)

/-! ### impl_CutsText: function 18 -/
def impl_CutsText.line (x : S62) : List UInt8 := Lib.itoa (wrap64 x.f0) ++ [32] ++ Lib.itoa (wrap64 x.f1) ++ [32] ++ Lib.itoa (wrap64 x.f2) ++ [10]
def impl_CutsText.f (k : Nat) (l0 : List S62) : Option ByteArray := (impl_areCuts.f k l0 8).bind fun t => if t = true then (if l0.length ≤ 1048576 then some ⟨(l0.flatMap impl_CutsText.line).toArray⟩ else none) else some ⟨#[]⟩
theorem impl_CutsText.mono : ∀ l0 k, LeO (impl_CutsText.f k l0) (impl_CutsText.f (k + 1) l0) := by
  intro l0 k
  unfold impl_CutsText.f
  refine LeO.bind (impl_areCuts.mono _ _ k) (fun _ => LeO.refl _)
theorem impl_CutsText.line_data (a b c : Int) : Lib.strCells ((((((⟨(Lib.itoa a).toArray⟩ : ByteArray) ++ (⟨#[32]⟩ : ByteArray)) ++ (⟨(Lib.itoa b).toArray⟩ : ByteArray)) ++ (⟨#[32]⟩ : ByteArray)) ++ (⟨(Lib.itoa c).toArray⟩ : ByteArray)) ++ (⟨#[10]⟩ : ByteArray)) = Lib.byteCells (Lib.itoa a ++ [32] ++ Lib.itoa b ++ [32] ++ Lib.itoa c ++ [10]) := by
  rw [Lib.strCells_eq]
  simp [ByteArray.data_append]
theorem impl_CutsText.dec (n : Int) : ∃ t : ByteArray, impl_decimal.f (wrap64 n) = some t ∧ t = ⟨(Lib.itoa (wrap64 n)).toArray⟩ ∧ t.size ≤ 21 := by
  have h : -9223372036854775808 ≤ wrap64 n ∧ wrap64 n ≤ 9223372036854775807 := by unfold wrap64; omega
  have hl := Lib.itoa_length_le (wrap64 n) h.1 h.2
  refine ⟨_, ?_, rfl, by simpa [ByteArray.size] using hl⟩
  unfold impl_decimal.f
  rw [if_neg (by omega), if_pos h.2]
theorem impl_CutsText.line_len (x : S62) : (impl_CutsText.line x).length ≤ 66 := by
  have h : ∀ n, -9223372036854775808 ≤ wrap64 n ∧ wrap64 n ≤ 9223372036854775807 := by intro n; unfold wrap64; omega
  have a := Lib.itoa_length_le (wrap64 x.f0) (h _).1 (h _).2
  have b := Lib.itoa_length_le (wrap64 x.f1) (h _).1 (h _).2
  have c := Lib.itoa_length_le (wrap64 x.f2) (h _).1 (h _).2
  unfold impl_CutsText.line
  simp only [List.length_append, List.length_singleton]
  omega
theorem impl_CutsText.len : ∀ l : List S62, (l.flatMap impl_CutsText.line).length ≤ 66 * l.length
  | [] => by simp
  | x :: l => by
    have := impl_CutsText.line_len x
    have := impl_CutsText.len l
    simp only [List.flatMap_cons, List.length_append, List.length_cons]
    omega
set_option maxHeartbeats 8000000 in
set_option maxRecDepth 100000 in
theorem impl_CutsText.calls (k : Nat) (A0 : Option Addr) (c0 : Nat) (l0 : List S62) (r : ByteArray) (w : World) (htab : WF w) (hr0 : Kd.C k62 w A0 l0.length l0) (hc0 : l0.length ≤ c0) (h : impl_CutsText.f k l0 = some r) :
    Calls Tryd.prog 18 #[.slice A0 l0.length c0] w fun e w' => e = .returned (.string r) ∧ Below w.heap.size w w' := by
  have h0 := h
  clear h
  have hu62 := Tryd.underlying62
  have HB := Aside0.mk (Below.refl w.heap.size w)
  have HR0 := Aside0.mk hr0
  have HC0 := Aside0.mk hc0
  have HT := Aside0.mk htab
  clear hr0 hc0 htab
  unfold impl_CutsText.f at h0
  obtain ⟨t, A10, h⟩ := Option.bind_eq_some_iff.mp h0
  clear h0
  have A1 := Aside0.mk A10
  clear A10
  cases t
  · obtain rfl := Option.some.inj (show some (⟨#[]⟩ : ByteArray) = some r from h)
    go_enter Tryd.func18, Tryd.ntmps18
    go_wp2_with (go_at_call 42; (refine (impl_areCuts.calls k A0 c0 l0 8 false _ ?s1 ?s2 A1.out).mono ?_); (case s1 => exact HR0.out); (case s2 => exact HC0.out); rintro e w1 ⟨rfl, hb⟩)
    go_ret
    exact ⟨rfl, hb⟩
  · have h2 : (if l0.length ≤ 1048576 then some (⟨(l0.flatMap impl_CutsText.line).toArray⟩ : ByteArray) else none) = some r := h
    clear h
    by_cases q : l0.length ≤ 1048576
    rotate_left
    · rw [if_neg q] at h2; exact absurd h2 (by simp)
    rw [if_pos q] at h2
    obtain rfl := Option.some.inj h2
    clear h2
    have Q := Aside0.mk q
    clear q
    go_enter Tryd.func18, Tryd.ntmps18
    go_wp2_with (go_at_call 42; (refine (impl_areCuts.calls k A0 c0 l0 8 true _ ?s1 ?s2 A1.out).mono ?_); (case s1 => exact HR0.out); (case s2 => exact HC0.out); rintro e w1 ⟨rfl, hb⟩; have HB1 := Aside0.mk hb; clear hb)
    go_loopg [11] l0.length (fun kq v11 w' => ∃ i : Nat, v11 = .int .i64 (i : Int) ∧ Aside0 (i + kq = l0.length) ∧ Aside0 (Lib.IsBuilder 69 5 w.heap.size w1.heap.size (Lib.byteCells ((l0.take i).flatMap impl_CutsText.line)) w') ∧ Aside0 (Below w.heap.size w w'))
    case atStart => exact ⟨0, by simp, ⟨by omega⟩, ⟨builder_new 69 5 _ _ HB1.out.size⟩, ⟨HB1.out.alloc HB1.out.size _⟩⟩
    case round =>
      obtain ⟨i, rfl, HI, HBu, HB⟩ := hrel
      by_cases c2 : i < l0.length
      · cases gk with
        | zero => exact absurd HI.out (by omega)
        | succ k1 =>
          have c2b0 : decide ((i : Int) < (l0.length : Int)) = true := decide_eq_true (by omega)
          obtain ⟨ad, e_, hx_0, hx_1, hx_2⟩ := at_T62 HR0.out i (by omega) (by omega)
          cases e_
          replace hx_0 := (HB.out.cell (World.block_lt_of_cell? w _ hx_0)).trans hx_0
          replace hx_1 := (HB.out.cell (World.block_lt_of_cell? w _ hx_1)).trans hx_1
          replace hx_2 := (HB.out.cell (World.block_lt_of_cell? w _ hx_2)).trans hx_2
          have p1 : (0 ≤ (i : Int)) = True := eq_true (by omega)
          have q1 : ((i : Int) < (l0.length : Int)) = True := eq_true (by omega)
          have HC2 := Aside0.mk c2
          clear c2
          have HX := Aside0.mk (show rd_T62 l0 i = l0[i]'HC2.out by unfold rd_T62; rw [Int.toNat_natCast]; simp [HC2.out])
          simp only [Int.toNat_natCast] at hx_0 hx_1 hx_2
          go_wp2
          clear hx_0 hx_1 hx_2 p1 q1 c2b0
          have HL := Aside0.mk (show w1.heap.size < wr.heap.size by rcases HBu.out with h | h <;> exact h.lt)
          have HBS := Aside0.mk HB.out.size
          obtain ⟨t0, d0, e0, s0⟩ := impl_CutsText.dec (rd_T62 l0 i).f0
          obtain ⟨t1, d1, e1, s1⟩ := impl_CutsText.dec (rd_T62 l0 i).f1
          obtain ⟨t2, d2, e2, s2⟩ := impl_CutsText.dec (rd_T62 l0 i).f2
          have D0 := Aside0.mk d0
          have D1 := Aside0.mk d1
          have D2 := Aside0.mk d2
          have E0 := Aside0.mk e0
          have E1 := Aside0.mk e1
          have E2 := Aside0.mk e2
          have g1 : (9223372036854775807 < t0.size + 1) = False := eq_false (by omega)
          have g2 : (9223372036854775807 < t0.size + 1 + t1.size) = False := eq_false (by omega)
          have g3 : (9223372036854775807 < t0.size + 1 + t1.size + 1) = False := eq_false (by omega)
          have g4 : (9223372036854775807 < t0.size + 1 + t1.size + 1 + t2.size) = False := eq_false (by omega)
          have g5 : (9223372036854775807 < t0.size + 1 + t1.size + 1 + t2.size + 1) = False := eq_false (by omega)
          have HS := Aside0.mk (And.intro s0 (And.intro s1 s2))
          clear d0 d1 d2 e0 e1 e2 s0 s1 s2
          have HB_ := Aside0.mk (HB.out.alloc HBS.out (.cells #[.int .i16 (rd_T62 l0 i).f0, .int .i16 (rd_T62 l0 i).f1, .int .i8 (rd_T62 l0 i).f2] 62))
          have BU_ := Aside0.mk (show Lib.IsBuilder 69 5 w.heap.size w1.heap.size (Lib.byteCells ((l0.take i).flatMap impl_CutsText.line)) (wr.alloc (.cells #[.int .i16 (rd_T62 l0 i).f0, .int .i16 (rd_T62 l0 i).f1, .int .i8 (rd_T62 l0 i).f2] 62)).drew from isBuilder_below HBu.out (((Below.refl _ _).alloc (Nat.le_refl _) _).drew))
          have BK := Aside0.mk (show (wr.alloc (.cells #[.int .i16 (rd_T62 l0 i).f0, .int .i16 (rd_T62 l0 i).f1, .int .i8 (rd_T62 l0 i).f2] 62)).drew.heap[wr.heap.size]? = some (.cells #[.int .i16 (rd_T62 l0 i).f0, .int .i16 (rd_T62 l0 i).f1, .int .i8 (rd_T62 l0 i).f2] 62 (0, 0)) from (show (wr.heap.push _)[wr.heap.size]? = _ by simp))
          clear HB HBu
          have HB := HB_
          have HBu := BU_
          clear HB_ BU_
          have HB_ := Aside0.mk (below_drew1 HB.out)
          clear HB
          have HB := HB_
          clear HB_
          refine start_ (n := 18) (S := fun w' => w'.cell? ⟨wr.heap.size, 0, none⟩ = some (.int .i16 (rd_T62 l0 i).f0) ∧ w'.cell? ⟨wr.heap.size, 1, none⟩ = some (.int .i16 (rd_T62 l0 i).f1) ∧ w'.cell? ⟨wr.heap.size, 2, none⟩ = some (.int .i8 (rd_T62 l0 i).f2)) (ds := []) #[false, false, false, false, false, false, false, false, false, false, false, false, false, false, false, false, false, false] (by kernel_rfl) rfl rfl ⟨(blk_cell BK.out 0).trans rfl, (blk_cell BK.out 1).trans rfl, (blk_cell BK.out 2).trans rfl⟩ (fun hHeld => ?_)
          generalize (wr.alloc (.cells #[.int .i16 (rd_T62 l0 i).f0, .int .i16 (rd_T62 l0 i).f1, .int .i8 (rd_T62 l0 i).f2] 62)).drew = w4 at HBu BK HB hHeld ⊢
          refine pure_ (i := 0) (N := some 15) (v := ?_) (a' := ?_) #[true, false, false, false, false, false, false, false, false, false, false, false, false, false, false, false, false, false] rfl rfl (by kernel_rfl) (fun _ _ _ h => h) (Or.inl ⟨by rfl, ?_⟩) ?_ ?_
          rotate_left
          · intro w'
            go_simp
            with_reducible rfl
          rotate_left
          · simp only [Act.put, List.setIfInBounds_toArray, List.set_cons_zero, List.set_cons_succ, i64_w, i32_w]
            rfl
          refine pure_ (i := 5) (N := some 20) (v := ?_) (a' := ?_) #[true, false, false, false, false, true, false, false, false, false, false, false, false, false, false, false, false, false] rfl rfl (by kernel_rfl) (fun _ _ _ h => h) (Or.inl ⟨by rfl, ?_⟩) ?_ ?_
          rotate_left
          · intro w'
            go_simp
            with_reducible rfl
          rotate_left
          · simp only [Act.put, List.setIfInBounds_toArray, List.set_cons_zero, List.set_cons_succ, i64_w, i32_w]
            rfl
          refine pure_ (i := 11) (N := some 26) (v := ?_) (a' := ?_) #[true, false, false, false, false, true, false, false, false, false, false, true, false, false, false, false, false, false] rfl rfl (by kernel_rfl) (fun _ _ _ h => h) (Or.inl ⟨by rfl, ?_⟩) ?_ ?_
          rotate_left
          · intro w'
            go_simp
            with_reducible rfl
          rotate_left
          · simp only [Act.put, List.setIfInBounds_toArray, List.set_cons_zero, List.set_cons_succ, i64_w, i32_w]
            rfl
          refine take_ (i := 1) (N := some 16) (v := ?_) (a' := ?_) #[true, true, false, false, false, true, false, false, false, false, false, true, false, false, false, false, false, false] rfl rfl (by kernel_rfl) (fun _ _ _ h => h) (Or.inl ⟨by rfl, ?_⟩) hHeld ?_ ?_
          rotate_left
          · rintro w' ⟨z0, z1, z2⟩
            go_simp
            with_reducible rfl
          rotate_left
          · simp only [Act.put, List.setIfInBounds_toArray, List.set_cons_zero, List.set_cons_succ, i64_w, i32_w]
            rfl
          refine pure_ (i := 2) (N := some 17) (v := ?_) (a' := ?_) #[true, true, true, false, false, true, false, false, false, false, false, true, false, false, false, false, false, false] rfl rfl (by kernel_rfl) (fun _ _ _ h => h) (Or.inl ⟨by rfl, ?_⟩) ?_ ?_
          rotate_left
          · intro w'
            go_simp
            with_reducible rfl
          rotate_left
          · simp only [Act.put, List.setIfInBounds_toArray, List.set_cons_zero, List.set_cons_succ, i64_w, i32_w]
            rfl
          refine take_ (i := 6) (N := some 21) (v := ?_) (a' := ?_) #[true, true, true, false, false, true, true, false, false, false, false, true, false, false, false, false, false, false] rfl rfl (by kernel_rfl) (fun _ _ _ h => h) (Or.inl ⟨by rfl, ?_⟩) hHeld ?_ ?_
          rotate_left
          · rintro w' ⟨z0, z1, z2⟩
            go_simp
            with_reducible rfl
          rotate_left
          · simp only [Act.put, List.setIfInBounds_toArray, List.set_cons_zero, List.set_cons_succ, i64_w, i32_w]
            rfl
          refine pure_ (i := 7) (N := some 22) (v := ?_) (a' := ?_) #[true, true, true, false, false, true, true, true, false, false, false, true, false, false, false, false, false, false] rfl rfl (by kernel_rfl) (fun _ _ _ h => h) (Or.inl ⟨by rfl, ?_⟩) ?_ ?_
          rotate_left
          · intro w'
            go_simp
            with_reducible rfl
          rotate_left
          · simp only [Act.put, List.setIfInBounds_toArray, List.set_cons_zero, List.set_cons_succ, i64_w, i32_w]
            rfl
          refine take_ (i := 12) (N := some 27) (v := ?_) (a' := ?_) #[true, true, true, false, false, true, true, true, false, false, false, true, true, false, false, false, false, false] rfl rfl (by kernel_rfl) (fun _ _ _ h => h) (Or.inl ⟨by rfl, ?_⟩) hHeld ?_ ?_
          rotate_left
          · rintro w' ⟨z0, z1, z2⟩
            go_simp
            with_reducible rfl
          rotate_left
          · simp only [Act.put, List.setIfInBounds_toArray, List.set_cons_zero, List.set_cons_succ, i64_w, i32_w]
            rfl
          refine pure_ (i := 13) (N := some 28) (v := ?_) (a' := ?_) #[true, true, true, false, false, true, true, true, false, false, false, true, true, true, false, false, false, false] rfl rfl (by kernel_rfl) (fun _ _ _ h => h) (Or.inl ⟨by rfl, ?_⟩) ?_ ?_
          rotate_left
          · intro w'
            go_simp
            with_reducible rfl
          rotate_left
          · simp only [Act.put, List.setIfInBounds_toArray, List.set_cons_zero, List.set_cons_succ, i64_w, i32_w]
            rfl
          refine one_ (i := 3) (N := some 18) #[true, true, true, true, false, true, true, true, false, false, false, true, true, true, false, false, false, false] rfl rfl (by kernel_rfl) (by decide) (fun K hK => ?_)
          refine goes_ Tryd.func38 (by kernel_rfl) rfl #[.int .i64 (wrap64 (rd_T62 l0 i).f0)] (by rfl) rfl rfl (by (try simp only [List.map_toArray, List.map_cons, List.map_nil]); first | done | rfl | (simp only [List.length_drop, List.length_take]; rfl)) ?_
          with_reducible refine (impl_decimal.calls _ t0 _ (wf_on HT.out HB.out) D0.out).mono ?_
          rintro e w5 ⟨rfl, hb⟩
          refine ⟨_, rfl, ?_⟩
          have BK_ := Aside0.mk (blk_below BK.out hb)
          have BU_ := Aside0.mk (isBuilder_below HBu.out hb)
          have HB_ := Aside0.mk (below_step HB.out hb)
          clear hb BK HBu HB
          have BK := BK_
          have HBu := BU_
          have HB := HB_
          clear BK_ BU_ HB_
          refine hK.out _ _ ⟨(blk_cell BK.out 0).trans rfl, (blk_cell BK.out 1).trans rfl, (blk_cell BK.out 2).trans rfl⟩ (fun hHeld => ?_)
          clear hK K
          refine norm_ (a' := ?_) ?_ ?_
          rotate_left
          · show Act.put _ (some 18) _ = _
            simp only [Act.put, List.setIfInBounds_toArray, List.set_cons_zero, List.set_cons_succ, i64_w, i32_w]
            rfl
          refine pure_ (i := 4) (N := some 19) (v := ?_) (a' := ?_) #[true, true, true, true, true, true, true, true, false, false, false, true, true, true, false, false, false, false] rfl rfl (by kernel_rfl) (fun _ _ _ h => h) (Or.inl ⟨by rfl, ?_⟩) ?_ ?_
          rotate_left
          · intro w'
            go_simp
            with_reducible rfl
          rotate_left
          · simp only [Act.put, List.setIfInBounds_toArray, List.set_cons_zero, List.set_cons_succ, i64_w, i32_w]
            rfl
          refine one_ (i := 8) (N := some 23) #[true, true, true, true, true, true, true, true, true, false, false, true, true, true, false, false, false, false] rfl rfl (by kernel_rfl) (by decide) (fun K hK => ?_)
          refine goes_ Tryd.func38 (by kernel_rfl) rfl #[.int .i64 (wrap64 (rd_T62 l0 i).f1)] (by rfl) rfl rfl (by (try simp only [List.map_toArray, List.map_cons, List.map_nil]); first | done | rfl | (simp only [List.length_drop, List.length_take]; rfl)) ?_
          with_reducible refine (impl_decimal.calls _ t1 _ (wf_on HT.out HB.out) D1.out).mono ?_
          rintro e w6 ⟨rfl, hb⟩
          refine ⟨_, rfl, ?_⟩
          have BK_ := Aside0.mk (blk_below BK.out hb)
          have BU_ := Aside0.mk (isBuilder_below HBu.out hb)
          have HB_ := Aside0.mk (below_step HB.out hb)
          clear hb BK HBu HB
          have BK := BK_
          have HBu := BU_
          have HB := HB_
          clear BK_ BU_ HB_
          refine hK.out _ _ ⟨(blk_cell BK.out 0).trans rfl, (blk_cell BK.out 1).trans rfl, (blk_cell BK.out 2).trans rfl⟩ (fun hHeld => ?_)
          clear hK K
          refine norm_ (a' := ?_) ?_ ?_
          rotate_left
          · show Act.put _ (some 23) _ = _
            simp only [Act.put, List.setIfInBounds_toArray, List.set_cons_zero, List.set_cons_succ, i64_w, i32_w]
            rfl
          refine pure_ (i := 9) (N := some 24) (v := ?_) (a' := ?_) #[true, true, true, true, true, true, true, true, true, true, false, true, true, true, false, false, false, false] rfl rfl (by kernel_rfl) (fun _ _ _ h => h) (Or.inl ⟨by rfl, ?_⟩) ?_ ?_
          rotate_left
          · intro w'
            go_simp
            with_reducible rfl
          rotate_left
          · simp only [Act.put, List.setIfInBounds_toArray, List.set_cons_zero, List.set_cons_succ, i64_w, i32_w]
            rfl
          refine pure_ (i := 10) (N := some 25) (v := ?_) (a' := ?_) #[true, true, true, true, true, true, true, true, true, true, true, true, true, true, false, false, false, false] rfl rfl (by kernel_rfl) (fun _ _ _ h => h) (Or.inl ⟨by rfl, ?_⟩) ?_ ?_
          rotate_left
          · intro w'
            go_simp
            with_reducible rfl
          rotate_left
          · simp only [Act.put, List.setIfInBounds_toArray, List.set_cons_zero, List.set_cons_succ, i64_w, i32_w]
            rfl
          refine one_ (i := 14) (N := some 29) #[true, true, true, true, true, true, true, true, true, true, true, true, true, true, true, false, false, false] rfl rfl (by kernel_rfl) (by decide) (fun K hK => ?_)
          refine goes_ Tryd.func38 (by kernel_rfl) rfl #[.int .i64 (wrap64 (rd_T62 l0 i).f2)] (by rfl) rfl rfl (by (try simp only [List.map_toArray, List.map_cons, List.map_nil]); first | done | rfl | (simp only [List.length_drop, List.length_take]; rfl)) ?_
          with_reducible refine (impl_decimal.calls _ t2 _ (wf_on HT.out HB.out) D2.out).mono ?_
          rintro e w7 ⟨rfl, hb⟩
          refine ⟨_, rfl, ?_⟩
          have BK_ := Aside0.mk (blk_below BK.out hb)
          have BU_ := Aside0.mk (isBuilder_below HBu.out hb)
          have HB_ := Aside0.mk (below_step HB.out hb)
          clear hb BK HBu HB
          have BK := BK_
          have HBu := BU_
          have HB := HB_
          clear BK_ BU_ HB_
          refine hK.out _ _ ⟨(blk_cell BK.out 0).trans rfl, (blk_cell BK.out 1).trans rfl, (blk_cell BK.out 2).trans rfl⟩ (fun hHeld => ?_)
          clear hK K
          refine norm_ (a' := ?_) ?_ ?_
          rotate_left
          · show Act.put _ (some 29) _ = _
            simp only [Act.put, List.setIfInBounds_toArray, List.set_cons_zero, List.set_cons_succ, i64_w, i32_w]
            rfl
          refine pure_ (i := 15) (N := some 30) (v := ?_) (a' := ?_) #[true, true, true, true, true, true, true, true, true, true, true, true, true, true, true, true, false, false] rfl rfl (by kernel_rfl) (fun _ _ _ h => h) (Or.inl ⟨by rfl, ?_⟩) ?_ ?_
          rotate_left
          · intro w'
            go_simp
            with_reducible rfl
          rotate_left
          · simp only [Act.put, List.setIfInBounds_toArray, List.set_cons_zero, List.set_cons_succ, i64_w, i32_w]
            rfl
          refine pure_ (i := 16) (N := some 31) (v := ?_) (a' := ?_) #[true, true, true, true, true, true, true, true, true, true, true, true, true, true, true, true, true, false] rfl rfl (by kernel_rfl) (fun _ _ _ h => h) (Or.inl ⟨by rfl, ?_⟩) ?_ ?_
          rotate_left
          · intro w'
            go_simp
            with_reducible rfl
          rotate_left
          · simp only [Act.put, List.setIfInBounds_toArray, List.set_cons_zero, List.set_cons_succ, i64_w, i32_w]
            rfl
          refine one_ (i := 17) (N := some 32) #[true, true, true, true, true, true, true, true, true, true, true, true, true, true, true, true, true, true] rfl rfl (by kernel_rfl) (by decide) (fun K hK => ?_)
          refine goes_ Tryd.func43 (by kernel_rfl) rfl #[.pointer (some ⟨w1.heap.size, 0, none⟩), .string (((((t0 ++ (⟨#[32]⟩ : ByteArray)) ++ t1) ++ (⟨#[32]⟩ : ByteArray)) ++ t2) ++ (⟨#[10]⟩ : ByteArray))] (by rfl) rfl rfl (by (try simp only [List.map_toArray, List.map_cons, List.map_nil]); first | done | rfl | (simp only [List.length_drop, List.length_take]; rfl)) ?_
          with_reducible refine (writeString_w w.heap.size w1.heap.size (Lib.byteCells ((l0.take i).flatMap impl_CutsText.line)) (((((t0 ++ (⟨#[32]⟩ : ByteArray)) ++ t1) ++ (⟨#[32]⟩ : ByteArray)) ++ t2) ++ (⟨#[10]⟩ : ByteArray)) _ HBu.out (by have a := impl_CutsText.len (l0.take i); have b := HS.out; have c := Q.out; have d := HC2.out; rw [List.length_take] at a; simp only [Lib.byteCells_length, ByteArray.size_append]; have e1 : (⟨#[32]⟩ : ByteArray).size = 1 := rfl; have e2 : (⟨#[10]⟩ : ByteArray).size = 1 := rfl; omega) HB.out.size).mono ?_
          rintro e w8 ⟨rfl, hba, hb, hfr⟩
          refine ⟨_, rfl, ?_⟩
          have BK_ := Aside0.mk ((hfr _ _ _ _ BK.out (by decide) (Nat.ne_of_gt HL.out)).trans BK.out)
          have HB_ := Aside0.mk (HB.out.trans hb)
          have HBA := Aside0.mk hba
          clear hb hba hfr BK HBu HB
          have BK := BK_
          have HB := HB_
          clear BK_ HB_
          refine hK.out _ _ ⟨(blk_cell BK.out 0).trans rfl, (blk_cell BK.out 1).trans rfl, (blk_cell BK.out 2).trans rfl⟩ (fun hHeld => ?_)
          clear hK K
          refine norm_ (a' := ?_) ?_ ?_
          rotate_left
          · show Act.put _ (some 32) _ = _
            simp only [Act.put, List.setIfInBounds_toArray, List.set_cons_zero, List.set_cons_succ, i64_w, i32_w]
            rfl
          refine done_ (by kernel_rfl) ?_
          go_wp2
          go_roundg k1
          case measure => omega
          case rel =>
            refine ⟨i + 1, ?_, ⟨by have := HI.out; omega⟩, ⟨Or.inr ?_⟩, HB⟩
            · have a := Q.out
              have b := HC2.out
              have e : wrap64 ((i : Int) + 1) = ((i + 1 : Nat) : Int) := by unfold wrap64; omega
              rw [← e]
            · have z := HBA.out
              have e : Lib.byteCells ((l0.take (i + 1)).flatMap impl_CutsText.line) = Lib.byteCells ((l0.take i).flatMap impl_CutsText.line) ++ Lib.strCells (((((t0 ++ (⟨#[32]⟩ : ByteArray)) ++ t1) ++ (⟨#[32]⟩ : ByteArray)) ++ t2) ++ (⟨#[10]⟩ : ByteArray)) := by
                rw [E0.out, E1.out, E2.out, impl_CutsText.line_data, List.take_succ_eq_append_getElem HC2.out, List.flatMap_append, Lib.byteCells_append, ← HX.out]
                congr 2
                simp [impl_CutsText.line]
              rw [e]
              exact z
      · have HI' := HI.out
        have c2b0 : decide ((i : Int) < (l0.length : Int)) = false := decide_eq_false (by omega)
        have c2b1 : decide (i < l0.length) = false := decide_eq_false c2
        have e : l0.take i = l0 := List.take_of_length_le (by omega)
        rw [e] at HBu
        clear c2 HI' e
        go_wp2_with (go_at_call 44; refine (Tryd.Builder_String_any w.heap.size w1.heap.size (l0.flatMap impl_CutsText.line) _ HBu.out HB.out.size).mono ?_; rintro e w' ⟨rfl, hb⟩)
        go_ret
        exact ⟨rfl, HB.out.trans hb⟩


end Go.Proofs.YtcfjdpegllnhfaaDoor.FFnExactReadCuts
