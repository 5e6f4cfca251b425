-- Written by fvprint.py, a program of this session over the kit's print. Not trusted: Lean checks it.
import Derived.Test.YtpkhneodcndlpaaFFnExactFreeStretchesx0
import Derived.Test.YtpkhneodcndlpaaFFnExactFreeStretchesx1
namespace Go.Proofs.Ytpkhneodcndlpaa.FFnExactFreeStretches
open Go.RowKit Go.Proofs.YtpkhneodcndlpaaW.PrintWords Go.Proofs.YtpkhneodcndlpaaW.PrintLast Go.Proofs.YtpkhneodcndlpaaW.PrintMore
attribute [local go_sem] max2_int min2_int max_two min_two max_three min_three max_four min_four   -- for this text's walks alone
set_option linter.unusedVariables false
set_option linter.unusedSimpArgs false

/-! ### slices_Index_bool_bool: function 94 -/
def slices_Index_bool_bool.l0 : Nat → List Bool → Bool → Int → Int → Option (Int)
  | 0, _, _, _, _ => none
  | k + 1, x0, x1, x7, x8 => if x8 < x7 then (if 0 ≤ x8 then (if x8 < (x0.length : Int) then (if (x1 == (rdOf false x0 x8)) = true then (some x8) else (slices_Index_bool_bool.l0 k x0 x1 x7 (wrap64 (x8 + 1)))) else (none)) else (none)) else (some (-1))
def slices_Index_bool_bool.f (k : Nat) (l0 : List Bool) (a1 : Bool) : Option (Int) := slices_Index_bool_bool.l0 k l0 a1 (l0.length : Int) 0
theorem slices_Index_bool_bool.mono_l : ∀ k, (∀ y0 y1 y2 y3, LeO (slices_Index_bool_bool.l0 k y0 y1 y2 y3) (slices_Index_bool_bool.l0 (k + 1) y0 y1 y2 y3))
  | 0 => fun _ _ _ _ r h => by simp [slices_Index_bool_bool.l0] at h
  | k + 1 => by
    have ih0 := slices_Index_bool_bool.mono_l k
    · intro y0 y1 y2 y3
      unfold slices_Index_bool_bool.l0
      repeat' first
      | (with_reducible exact ih0 _ _ _ _)
      | (with_reducible exact LeO.refl _)
      | (with_reducible exact LeO.none _)
      | (with_reducible refine LeO.ite ?_ ?_)
      | (with_reducible refine LeO.bind ?_ (fun _ => ?_))
      | exact ih0 _ _ _ _
      | exact LeO.none _
      | refine LeO.ite ?_ ?_
      | refine LeO.bind ?_ (fun _ => ?_)
theorem slices_Index_bool_bool.mono : ∀ a0 a1 k, LeO (slices_Index_bool_bool.f k a0 a1) (slices_Index_bool_bool.f (k + 1) a0 a1) := by
  intro a0 a1 k
  have ih0 := slices_Index_bool_bool.mono_l k
  unfold slices_Index_bool_bool.f
  repeat' first
      | (with_reducible exact ih0 _ _ _ _)
      | (with_reducible exact LeO.refl _)
      | (with_reducible exact LeO.none _)
      | (with_reducible refine LeO.ite ?_ ?_)
      | (with_reducible refine LeO.bind ?_ (fun _ => ?_))
      | exact ih0 _ _ _ _
      | exact LeO.none _
      | refine LeO.ite ?_ ?_
      | refine LeO.bind ?_ (fun _ => ?_)
set_option maxHeartbeats 8000000 in
set_option maxRecDepth 100000 in
theorem slices_Index_bool_bool.calls (k : Nat) (A0 : Option Addr) (c0 : Nat) (l0 : List Bool) (a1 : Bool) (r : Int) (w : World) (hr0 : Kd.C Kd.bool w A0 l0.length l0) (hc0 : l0.length ≤ c0) (h : slices_Index_bool_bool.f k l0 a1 = some r) :
    Calls Try.prog 94 #[.slice A0 l0.length c0, .bool a1] w fun e w' => e = .returned (.int .i64 r) ∧ Drawn0 w w' := by
  have HR0 := Aside0.mk hr0
  have HC0 := Aside0.mk hc0
  clear hr0 hc0
  have H : (slices_Index_bool_bool.l0 k l0 a1 (l0.length : Int) 0) = some r := h
  clear h
  have H' := Aside0.mk H
  clear H
  go_enter Try.func94, Try.ntmps94
  go_wp2
  go_loopg [8] k (fun kq v8 w' => ∃ (x8_1 : Int), v8 = .int .i64 x8_1 ∧ Aside0 (slices_Index_bool_bool.l0 kq l0 a1 (l0.length : Int) x8_1 = some r) ∧ Aside0 (kq ≤ k) ∧ Drawn0 w w')
  case atStart => exact ⟨(0), (by first | rfl | (simp; done) | (simp [*]; done) | (simp [i64_w, i32_w]; done)), H', ⟨Nat.le_refl _⟩, by repeat (first | exact Drawn0.refl _ | apply Drawn0.step)⟩
  case round =>
    clear H'
    try clear p2
    obtain ⟨x8_1, rfl, HA, HK1, ⟨m1, rfl⟩⟩ := hrel
    cases gk with
    | zero => exact absurd HA.out (by simp [slices_Index_bool_bool.l0])
    | succ k1 =>
      have H := HA.out
      clear HA
      simp only [slices_Index_bool_bool.l0] at H
      by_cases c3 : x8_1 < (l0.length : Int)
      · rw [if_pos c3] at H
        have c3b0 : decide (x8_1 < (l0.length : Int)) = true := decide_eq_true c3
        clear c3
        by_cases c4 : 0 ≤ x8_1
        · rw [if_pos c4] at H
          have c4b0 : decide (0 ≤ x8_1) = true := decide_eq_true c4
          clear c4
          by_cases c5 : x8_1 < (l0.length : Int)
          · rw [if_pos c5] at H
            have c5b0 : decide (x8_1 < (l0.length : Int)) = true := decide_eq_true c5
            clear c5
            by_cases c6 : (a1 == (rdOf false l0 x8_1)) = true
            · rw [if_pos c6] at H
              have c6b0 : (a1 == (rdOf false l0 x8_1)) = true := c6
              (try (have c6b1 : decide (a1 = (rdOf false l0 x8_1)) = true := by simpa using c6))
              (try (have c6b2 : (a1 == (rdOf false l0 x8_1)) = true := by simpa using c6))
              clear c6
              obtain rfl := Option.some.inj H
              have p131 : 0 ≤ (x8_1 : Int) := of_decide_eq_true (by first | (with_reducible assumption) | assumption)
              have q131 : x8_1 < (l0.length : Int) := of_decide_eq_true (by first | (with_reducible assumption) | assumption)
              obtain ⟨ad131, e131, hx131_0⟩ := Kd.at_bool HR0.out x8_1 p131 q131
              cases e131
              replace p131 := eq_true p131
              replace q131 := eq_true q131
              go_wp2
              go_ret
              exact ⟨by first | rfl | (simp; done) | (simp [*]; done) | (simp [i64_w, i32_w]; done), by repeat (first | exact Drawn0.refl _ | apply Drawn0.step)⟩
            · rw [if_neg c6] at H
              have c6b0 : (a1 == (rdOf false l0 x8_1)) = false := by simpa using c6
              (try (have c6b1 : decide (a1 = (rdOf false l0 x8_1)) = false := by simpa using c6))
              (try (have c6b2 : (a1 == (rdOf false l0 x8_1)) = false := by simpa using c6))
              (try (have c6b3 : ¬ (a1 = (rdOf false l0 x8_1)) := by simpa using c6))
              clear c6
              have H' := Aside0.mk H
              clear H
              have p131 : 0 ≤ (x8_1 : Int) := of_decide_eq_true (by first | (with_reducible assumption) | assumption)
              have q131 : x8_1 < (l0.length : Int) := of_decide_eq_true (by first | (with_reducible assumption) | assumption)
              obtain ⟨ad131, e131, hx131_0⟩ := Kd.at_bool HR0.out x8_1 p131 q131
              cases e131
              replace p131 := eq_true p131
              replace q131 := eq_true q131
              go_wp2
              go_roundg k1
              case measure => have := HK1.out; omega
              case rel => exact ⟨(wrap64 (x8_1 + 1)), (by first | rfl | (simp; done) | (simp [*]; done) | (simp [i64_w, i32_w]; done)), H', ⟨by have := HK1.out; omega⟩, by repeat (first | exact Drawn0.refl _ | apply Drawn0.step)⟩
          · rw [if_neg c5] at H
            exact absurd H (by simp)
        · rw [if_neg c4] at H
          exact absurd H (by simp)
      · rw [if_neg c3] at H
        have c3b0 : decide (x8_1 < (l0.length : Int)) = false := decide_eq_false c3
        clear c3
        obtain rfl := Option.some.inj H
        go_wp2
        go_ret
        exact ⟨by first | rfl | (simp; done) | (simp [*]; done) | (simp [i64_w, i32_w]; done), by repeat (first | exact Drawn0.refl _ | apply Drawn0.step)⟩

/-! ### slices_SortFunc_2_int64_2_int64: function 95 -/
def slices_SortFunc_2_int64_2_int64.f (l0 : List (S96)) : Option (List (S96)) := if (∀ x ∈ l0, 0 ≤ x.f0 ∧ x.f0 < 1000000) ∧ (l0.map (·.f0)).Nodup ∧ l0.length ≤ 1000000 then some (l0.mergeSort (fun x y => decide (x.f0 ≤ y.f0))) else none
/-- A list's cells. -/
def slices_SortFunc_2_int64_2_int64.flat (l : List S96) : List Value := l.flatMap (fun x => [.int .i64 x.f0, .int .i64 x.f1])
theorem slices_SortFunc_2_int64_2_int64.flat_cons (x : S96) (l : List S96) : slices_SortFunc_2_int64_2_int64.flat (x :: l) = .int .i64 x.f0 :: .int .i64 x.f1 :: slices_SortFunc_2_int64_2_int64.flat l := rfl
theorem slices_SortFunc_2_int64_2_int64.flat_len : ∀ l : List S96, (slices_SortFunc_2_int64_2_int64.flat l).length = l.length * 2
  | [] => rfl
  | x :: l => by rw [slices_SortFunc_2_int64_2_int64.flat_cons, List.length_cons, List.length_cons, slices_SortFunc_2_int64_2_int64.flat_len l, List.length_cons]; omega
theorem slices_SortFunc_2_int64_2_int64.flat_at : ∀ (l : List S96) (j : Nat) (x : S96), l[j]? = some x → ((slices_SortFunc_2_int64_2_int64.flat l).drop (j * 2)).take 2 = [.int .i64 x.f0, .int .i64 x.f1]
  | [], j, x, h => by simp at h
  | y :: l, 0, x, h => by
    obtain rfl : y = x := by simpa using h
    rw [slices_SortFunc_2_int64_2_int64.flat_cons]
    rfl
  | y :: l, j + 1, x, h => by
    rw [slices_SortFunc_2_int64_2_int64.flat_cons, show (j + 1) * 2 = j * 2 + 2 by omega]
    exact slices_SortFunc_2_int64_2_int64.flat_at l j x (by simpa using h)
/-- What a row that holds a list has for cells. -/
theorem slices_SortFunc_2_int64_2_int64.reps {w : World} {base : Nat} {ok : Nat → Prop} : ∀ (l : List S96) (cs : List Value), Reps (k96.M w base ok) 2 l cs → cs = slices_SortFunc_2_int64_2_int64.flat l
  | [], cs, h => by
    have := h.1
    exact List.length_eq_zero_iff.1 (by simpa using this)
  | x :: l, cs, h => by
    have hl := h.1
    rw [List.length_cons] at hl
    cases cs with
    | nil => simp at hl
    | cons a cs =>
      cases cs with
      | nil => simp at hl; omega
      | cons b cs =>
        have h0 := k96_openM (h.2 0 x rfl)
        have e0 : [a, b] = [.int .i64 x.f0, .int .i64 x.f1] := by simpa using h0
        obtain ⟨rfl, e1⟩ := List.cons.inj e0
        obtain ⟨rfl, _⟩ := List.cons.inj e1
        have ht : Reps (k96.M w base ok) 2 l cs := by
          refine ⟨by simp at hl; omega, fun j p hp => ?_⟩
          have := h.2 (j + 1) p (by simpa using hp)
          rw [show (j + 1) * 2 = j * 2 + 2 by omega] at this
          exact this
        rw [slices_SortFunc_2_int64_2_int64.flat_cons, slices_SortFunc_2_int64_2_int64.reps l cs ht]
theorem slices_SortFunc_2_int64_2_int64.mkReps (w : World) (base : Nat) (ok : Nat → Prop) (l : List S96) : Reps (k96.M w base ok) 2 l (slices_SortFunc_2_int64_2_int64.flat l) :=
  ⟨slices_SortFunc_2_int64_2_int64.flat_len l, fun j p hp => by rw [slices_SortFunc_2_int64_2_int64.flat_at l j p hp]; exact k96_mkM w base ok p⟩
abbrev slices_SortFunc_2_int64_2_int64.A : Type := {x : S96 // 0 ≤ x.f0 ∧ x.f0 < 1000000}
instance : Inhabited slices_SortFunc_2_int64_2_int64.A := ⟨⟨⟨0, 0⟩, by show (0 : Int) ≤ 0 ∧ (0 : Int) < 1000000; omega⟩⟩
def slices_SortFunc_2_int64_2_int64.enc (x : slices_SortFunc_2_int64_2_int64.A) : List Value := [.int .i64 x.1.f0, .int .i64 x.1.f1]
theorem slices_SortFunc_2_int64_2_int64.flatK (d : Array slices_SortFunc_2_int64_2_int64.A) : (Go.Sort.flatK slices_SortFunc_2_int64_2_int64.enc 2 d).toList = slices_SortFunc_2_int64_2_int64.flat (d.toList.map (·.1)) := by
  refine List.ext_getElem? fun t => ?_
  by_cases ht : t < d.size * 2
  · have h1 : t < (Go.Sort.flatK slices_SortFunc_2_int64_2_int64.enc 2 d).size := by rw [Go.Sort.size_flatK]; exact ht
    have h2 : t / 2 < d.size := by omega
    rw [Array.getElem?_toList, Array.getElem?_eq_getElem h1, ← getElem!_pos (Go.Sort.flatK slices_SortFunc_2_int64_2_int64.enc 2 d) t h1, Go.Sort.get_flatK _ _ _ _ ht, getElem!_pos d (t / 2) h2]
    have h3 : (d.toList.map (·.1))[t / 2]? = some (d[t / 2]).1 := by simp [List.getElem?_map, h2]
    have h4 := slices_SortFunc_2_int64_2_int64.flat_at _ (t / 2) _ h3
    have h5 : (slices_SortFunc_2_int64_2_int64.flat (d.toList.map (·.1)))[t]? = (((slices_SortFunc_2_int64_2_int64.flat (d.toList.map (·.1))).drop (t / 2 * 2)).take 2)[t % 2]? := by
      rw [List.getElem?_take, if_pos (Nat.mod_lt _ (by decide)), List.getElem?_drop]
      congr 1
      omega
    rw [h5, h4]
    unfold slices_SortFunc_2_int64_2_int64.enc
    have hm : t % 2 = 0 ∨ t % 2 = 1 := by omega
    rcases hm with h | h <;> rw [h] <;> rfl
  · have e1 : (Go.Sort.flatK slices_SortFunc_2_int64_2_int64.enc 2 d).toList[t]? = none := List.getElem?_eq_none (by rw [Array.length_toList, Go.Sort.size_flatK]; omega)
    have e2 : (slices_SortFunc_2_int64_2_int64.flat (d.toList.map (·.1)))[t]? = none := List.getElem?_eq_none (by rw [slices_SortFunc_2_int64_2_int64.flat_len, List.length_map, Array.length_toList]; omega)
    rw [e1, e2]
def slices_SortFunc_2_int64_2_int64.cf (x y : slices_SortFunc_2_int64_2_int64.A) : Int := x.1.f0 - y.1.f0
theorem slices_SortFunc_2_int64_2_int64.lt (x y : slices_SortFunc_2_int64_2_int64.A) : ltOf slices_SortFunc_2_int64_2_int64.cf x y = decide (x.1.f0 < y.1.f0) := by
  unfold ltOf slices_SortFunc_2_int64_2_int64.cf
  by_cases h : x.1.f0 < y.1.f0
  · rw [decide_eq_true h, decide_eq_true (by omega)]
  · rw [decide_eq_false h, decide_eq_false (by omega)]
theorem slices_SortFunc_2_int64_2_int64.swo : Go.Sort.SWO (ltOf slices_SortFunc_2_int64_2_int64.cf) where
  irrefl x := by rw [slices_SortFunc_2_int64_2_int64.lt]; simp
  trans x y z h1 h2 := by rw [slices_SortFunc_2_int64_2_int64.lt] at *; simp at *; omega
  ntrans x y z h1 h2 := by rw [slices_SortFunc_2_int64_2_int64.lt] at *; simp at *; omega
theorem slices_SortFunc_2_int64_2_int64.cmp (blk size : Nat) (w : World) : CmpLays Try.prog 96 #[] slices_SortFunc_2_int64_2_int64.enc 2 slices_SortFunc_2_int64_2_int64.cf blk 0 size w := by
  intro m os dk _ x y
  have e : wrap64 (x.1.f0 - y.1.f0) = x.1.f0 - y.1.f0 := by have := x.2; have := y.2; unfold wrap64; omega
  have h := Try.closure96 x.1.f0 x.1.f1 y.1.f0 y.1.f1 (Go.Proofs.sortWorldK slices_SortFunc_2_int64_2_int64.enc 2 w blk 0 m dk os)
  rw [e] at h
  exact h
/-- The one sorted list. -/
theorem slices_SortFunc_2_int64_2_int64.uniq (l D : List S96) (hnd : (l.map (·.f0)).Nodup) (hp : D.Perm l) (hs : D.Pairwise (fun x y => x.f0 ≤ y.f0)) : D = l.mergeSort (fun x y => decide (x.f0 ≤ y.f0)) := by
  refine List.Perm.eq_of_pairwise (le := fun x y => x.f0 ≤ y.f0) ?_ hs ?_ (hp.trans (List.mergeSort_perm _ _).symm)
  · intro a b ha hb h1 h2
    have ha' := hp.mem_iff.1 ha
    have hb' := (List.mergeSort_perm l _).mem_iff.1 hb
    obtain ⟨i, hi, rfl⟩ := List.mem_iff_getElem.1 ha'
    obtain ⟨j, hj, rfl⟩ := List.mem_iff_getElem.1 hb'
    have e : (l.map (·.f0))[i]'(by rw [List.length_map]; exact hi) = (l.map (·.f0))[j]'(by rw [List.length_map]; exact hj) := by
      rw [List.getElem_map, List.getElem_map]
      omega
    have : i = j := (List.getElem_inj hnd).1 e
    subst this
    rfl
  · have := List.pairwise_mergeSort (le := fun x y : S96 => decide (x.f0 ≤ y.f0)) (by intro a b c h1 h2; simp at *; omega) (by intro a b; simp; omega) l
    exact this.imp (fun h => by simpa using h)
set_option maxHeartbeats 8000000 in
set_option maxRecDepth 100000 in
theorem slices_SortFunc_2_int64_2_int64.calls (P0_ : Nat → Prop) (u9000_ : Value) (l0 : List (S96)) (r : List (S96)) (w0 w : World) (hB : Below w0.heap.size w0 w) (ho0 : Kd.R k96 96 w w0.heap.size P0_ u9000_ l0) (h : slices_SortFunc_2_int64_2_int64.f l0 = some r) :
    Calls Try.prog 95 #[u9000_, .func (.func 96) #[] #[]] w fun e w' => e = .returned (.tuple #[]) ∧ Kd.R k96 96 w' w0.heap.size (fun k_ => (P0_ k_ ∨ w.heap.size ≤ k_)) u9000_ r ∧ Below w0.heap.size w0 w' ∧ Kept w w' (fun k_ => P0_ k_) := by
  unfold slices_SortFunc_2_int64_2_int64.f at h
  split at h
  · rename_i hc
    obtain ⟨hr, hnd, h6⟩ := hc
    obtain rfl := Option.some.inj h
    by_cases hl : l0 = []
    · subst hl
      obtain ⟨A, c, rfl⟩ := Kd.R_slice ho0
      refine (Try.slices_SortFunc_none (α := slices_SortFunc_2_int64_2_int64.A) A c _ w).mono ?_
      rintro e w' ⟨rfl, rfl⟩
      rw [List.mergeSort_nil]
      exact ⟨rfl, Kd.R_mono ho0 (fun k_ hk => .inl hk), hB, Kept.refl _ _⟩
    · have hpos : 0 < l0.length := List.length_pos_iff.2 hl
      obtain ⟨hok, inner, ho, hrep⟩ := ho0
      have hin := slices_SortFunc_2_int64_2_int64.reps _ _ hrep
      subst hin
      obtain ⟨hlen, hv⟩ := ho
      rcases hv with ⟨_, h0⟩ | ⟨g, cap, cur, rfl, hb, hg, hnc, hcm, hsz, htake⟩
      · omega
      · obtain ⟨d, hd⟩ : ∃ d : Array slices_SortFunc_2_int64_2_int64.A, d.toList.map (·.1) = l0 := ⟨(l0.attach.map (fun x => (⟨x.1, hr x.1 x.2⟩ : slices_SortFunc_2_int64_2_int64.A))).toArray, by simp⟩
        have hds : d.size = l0.length := by rw [← hd, List.length_map, Array.length_toList]
        have hF := slices_SortFunc_2_int64_2_int64.flatK d
        rw [hd] at hF
        have hH : Go.Sort.HoldsK slices_SortFunc_2_int64_2_int64.enc 2 w g 0 d := by
          intro j hj
          rw [Go.Sort.size_flatK] at hj
          have hjl : j < (slices_SortFunc_2_int64_2_int64.flat l0).length := by rw [slices_SortFunc_2_int64_2_int64.flat_len, ← hds]; exact hj
          have hjs : j < (Go.Sort.flatK slices_SortFunc_2_int64_2_int64.enc 2 d).size := by rw [Go.Sort.size_flatK]; exact hj
          rw [Nat.zero_add, blk_cell hg, blk_frozen hg]
          refine ⟨?_, rfl⟩
          rw [getElem!_pos _ j hjs, ← Array.getElem?_toList]
          have e1 : cur.toList[j]? = (slices_SortFunc_2_int64_2_int64.flat l0)[j]? := by
            rw [← htake, List.getElem?_take, if_pos]
            have : k96.sz = 2 := rfl
            rw [slices_SortFunc_2_int64_2_int64.flat_len] at hjl
            rw [this]
            exact hjl
          rw [e1, ← hF, Array.getElem?_toList, Array.getElem?_eq_getElem hjs]
          rfl
        have hgl : g < w.heap.size := blk_lt hg
        have eg : ∀ args w, (callFunc 96 args).run Try.prog w = .ok (.enter 96 args) w := enters_of Try.func96 (by kernel_rfl) rfl
        have hmax : d.size < 4611686018427387904 := by omega
        have hcall := Try.slices_SortFunc 2 Try.isAgg96 Try.sizeOf96 slices_SortFunc_2_int64_2_int64.enc (fun _ => rfl) (fun x v hv => by simp [slices_SortFunc_2_int64_2_int64.enc] at hv; rcases hv with rfl | rfl <;> rfl) slices_SortFunc_2_int64_2_int64.cf slices_SortFunc_2_int64_2_int64.swo 96 #[] g 0 cap d w eg (slices_SortFunc_2_int64_2_int64.cmp g d.size w) hH hgl hmax
        rw [hds] at hcall
        refine hcall.mono ?_
        rintro e w' ⟨rfl, d', m, os, hp, hs, rfl⟩
        obtain ⟨hps, _, hperm⟩ := hp
        rw [← hds, ← hps, Array.extract_size, hps, Array.extract_size] at hperm
        have hs' : (d'.toList.map (·.1)).Pairwise (fun x y => x.f0 ≤ y.f0) := by
          rw [List.pairwise_iff_getElem]
          intro i j hi hj hij
          have hi' : i < d'.size := by simpa using hi
          have hj' : j < d'.size := by simpa using hj
          have := hs i j (Nat.zero_le _) hij (by omega)
          rw [getElem!_pos d' j hj', getElem!_pos d' i hi', slices_SortFunc_2_int64_2_int64.lt] at this
          simp at this ⊢
          exact this
        have hD := slices_SortFunc_2_int64_2_int64.uniq l0 (d'.toList.map (·.1)) hnd (by rw [← hd]; exact hperm.map _) hs'
        have hF' := slices_SortFunc_2_int64_2_int64.flatK d'
        rw [hD] at hF'
        generalize l0.mergeSort (fun x y => decide (x.f0 ≤ y.f0)) = r at hF' hD
        have hrl : r.length = l0.length := by rw [← hD, List.length_map, Array.length_toList, hps, hds]
        have hFs : (Go.Sort.flatK slices_SortFunc_2_int64_2_int64.enc 2 d').size = l0.length * 2 := by rw [Go.Sort.size_flatK, hps, hds]
        have hheap : ∀ k, k ≠ g → k < w.heap.size → (Go.Proofs.sortWorldK slices_SortFunc_2_int64_2_int64.enc 2 w g 0 m d' os).heap[k]? = w.heap[k]? := by
          intro k hk hkl
          show ((w.heap.modify g _) ++ os)[k]? = _
          rw [Array.getElem?_append_left (by simpa using hkl), Array.getElem?_modify, if_neg (Ne.symm hk)]
        have hheapg : (Go.Proofs.sortWorldK slices_SortFunc_2_int64_2_int64.enc 2 w g 0 m d' os).heap[g]? = some (.cells (Go.Sort.putCells id 0 (Go.Sort.flatK slices_SortFunc_2_int64_2_int64.enc 2 d') cur) 96 (0, 0)) := by
          show ((w.heap.modify g _) ++ os)[g]? = _
          rw [Array.getElem?_append_left (by simpa using hgl), Array.getElem?_modify, if_pos rfl, hg]
          rfl
        have hsize : w.heap.size ≤ (Go.Proofs.sortWorldK slices_SortFunc_2_int64_2_int64.enc 2 w g 0 m d' os).heap.size := by
          show _ ≤ ((w.heap.modify g _) ++ os).size
          rw [Array.size_append, Array.size_modify]
          omega
        have hcs : (Go.Sort.putCells id 0 (Go.Sort.flatK slices_SortFunc_2_int64_2_int64.enc 2 d') cur).size = cur.size := by simp [Go.Sort.putCells]
        have k2 : k96.sz = 2 := rfl
        refine ⟨rfl, ⟨fun k hk => .inl (hok k hk), slices_SortFunc_2_int64_2_int64.flat r, ⟨?_, Or.inr ⟨g, cap, _, ?_, hb, hheapg, ?_, hcm, ?_, ?_⟩⟩, ?_⟩, ⟨hB.os, hB.tape, hB.output, Nat.le_trans hB.size hsize, fun k hk => ?_⟩, hsize, fun k hk hn => ?_⟩
        · rw [slices_SortFunc_2_int64_2_int64.flat_len, k2]
        · rw [hrl]
        · rw [hrl]; exact hnc
        · rw [hcs]; exact hsz
        · refine List.ext_getElem? fun t => ?_
          rw [k2, hrl, List.getElem?_take]
          by_cases ht : t < l0.length * 2
          · have htc : t < cur.size := by rw [hsz, k2]; have := Nat.mul_le_mul_right 2 hnc; omega
            have htf : t < (Go.Sort.flatK slices_SortFunc_2_int64_2_int64.enc 2 d').size := by rw [hFs]; exact ht
            rw [if_pos ht, Array.getElem?_toList, ← hF', Array.getElem?_toList]
            simp only [Go.Sort.putCells, Array.getElem?_mapIdx, Array.getElem?_eq_getElem htc, Option.map_some]
            rw [if_pos ⟨Nat.zero_le _, by omega⟩, Nat.sub_zero, getElem!_pos _ t htf, Array.getElem?_eq_getElem htf]
            rfl
          · rw [if_neg ht, List.getElem?_eq_none (by rw [slices_SortFunc_2_int64_2_int64.flat_len, hrl]; omega)]
        · exact slices_SortFunc_2_int64_2_int64.mkReps _ _ _ r
        · by_cases e : k = g
          · omega
          · rw [hheap k e (Nat.lt_of_lt_of_le hk hB.size)]
            exact hB.block k hk
        · refine hheap k (fun e => hn ?_) hk
          rw [e]
          exact hok g rfl
  · exact absurd h (by simp)

/-! ### impl_freeStretches: function 75 -/
mutual
def impl_freeStretches.l0 : Nat → List Bool → Int → List (S96) → Int → Int → Option ((List (S96)))
  | 0, _, _, _, _, _ => none
  | k + 1, x0, x3, x5, x6, x7 => if x7 < (wrap64 (x6 + x3)) then (impl_freeStretches.l1 k x0 x3 x5 x6 x7 x7) else ((slices_SortFunc_2_int64_2_int64.f x5).bind fun t139 => (some t139))
def impl_freeStretches.l1 : Nat → List Bool → Int → List (S96) → Int → Int → Int → Option ((List (S96)))
  | 0, _, _, _, _, _, _ => none
  | k + 1, x0, x3, x5, x6, x7, x8 => if x8 < (wrap64 (x6 + x3)) then (if x3 = 0 then (none) else (if 0 ≤ (Int.tmod x8 x3) then (if (Int.tmod x8 x3) < (x0.length : Int) then (if (rdOf false x0 (Int.tmod x8 x3) = true) then (if x8 > x7 then (if x5.length < 8796093022208 then (impl_freeStretches.l0 k x0 x3 (x5 ++ [(⟨Int.tmod x7 x3, wrap64 (x8 - x7)⟩ : S96)]) x6 (wrap64 (x8 + 1))) else (none)) else (impl_freeStretches.l0 k x0 x3 x5 x6 (wrap64 (x8 + 1)))) else (impl_freeStretches.l1 k x0 x3 x5 x6 x7 (wrap64 (x8 + 1)))) else (none)) else (none))) else (if x8 > x7 then (if x3 = 0 then (none) else (if x5.length < 8796093022208 then (impl_freeStretches.l0 k x0 x3 (x5 ++ [(⟨Int.tmod x7 x3, wrap64 (x8 - x7)⟩ : S96)]) x6 (wrap64 (x8 + 1))) else (none))) else (impl_freeStretches.l0 k x0 x3 x5 x6 (wrap64 (x8 + 1))))
end
def impl_freeStretches.f (k : Nat) (l0 : List Bool) : Option ((List (S96))) := (slices_Index_bool_bool.f k l0 true).bind fun t132 => (if t132 < 0 then (some (([(⟨0, (l0.length : Int)⟩ : S96)] : List (S96)))) else (impl_freeStretches.l0 k l0 (l0.length : Int) (([] : List (S96))) t132 t132))
theorem impl_freeStretches.mono_l : ∀ k, (∀ y0 y1 y2 y3 y4, LeO (impl_freeStretches.l0 k y0 y1 y2 y3 y4) (impl_freeStretches.l0 (k + 1) y0 y1 y2 y3 y4)) ∧ (∀ y0 y1 y2 y3 y4 y5, LeO (impl_freeStretches.l1 k y0 y1 y2 y3 y4 y5) (impl_freeStretches.l1 (k + 1) y0 y1 y2 y3 y4 y5))
  | 0 => ⟨fun _ _ _ _ _ r h => by simp [impl_freeStretches.l0] at h, fun _ _ _ _ _ _ r h => by simp [impl_freeStretches.l1] at h⟩
  | k + 1 => by
    obtain ⟨ih0, ih1⟩ := impl_freeStretches.mono_l k
    refine ⟨?_, ?_⟩
    · intro y0 y1 y2 y3 y4
      unfold impl_freeStretches.l0
      repeat' first
      | (with_reducible exact ih0 _ _ _ _ _)
      | (with_reducible exact ih1 _ _ _ _ _ _)
      | (with_reducible exact slices_Index_bool_bool.mono _ _ _)
      | (with_reducible exact LeO.refl _)
      | (with_reducible exact LeO.none _)
      | (with_reducible refine LeO.ite ?_ ?_)
      | (with_reducible refine LeO.bind ?_ (fun _ => ?_))
      | exact ih0 _ _ _ _ _
      | exact ih1 _ _ _ _ _ _
      | exact slices_Index_bool_bool.mono _ _ _
      | exact LeO.none _
      | refine LeO.ite ?_ ?_
      | refine LeO.bind ?_ (fun _ => ?_)
    · intro y0 y1 y2 y3 y4 y5
      unfold impl_freeStretches.l1
      repeat' first
      | (with_reducible exact ih0 _ _ _ _ _)
      | (with_reducible exact ih1 _ _ _ _ _ _)
      | (with_reducible exact slices_Index_bool_bool.mono _ _ _)
      | (with_reducible exact LeO.refl _)
      | (with_reducible exact LeO.none _)
      | (with_reducible refine LeO.ite ?_ ?_)
      | (with_reducible refine LeO.bind ?_ (fun _ => ?_))
      | exact ih0 _ _ _ _ _
      | exact ih1 _ _ _ _ _ _
      | exact slices_Index_bool_bool.mono _ _ _
      | exact LeO.none _
      | refine LeO.ite ?_ ?_
      | refine LeO.bind ?_ (fun _ => ?_)
theorem impl_freeStretches.mono : ∀ a0 k, LeO (impl_freeStretches.f k a0) (impl_freeStretches.f (k + 1) a0) := by
  intro a0 k
  obtain ⟨ih0, ih1⟩ := impl_freeStretches.mono_l k
  unfold impl_freeStretches.f
  repeat' first
      | (with_reducible exact ih0 _ _ _ _ _)
      | (with_reducible exact ih1 _ _ _ _ _ _)
      | (with_reducible exact slices_Index_bool_bool.mono _ _ _)
      | (with_reducible exact LeO.refl _)
      | (with_reducible exact LeO.none _)
      | (with_reducible refine LeO.ite ?_ ?_)
      | (with_reducible refine LeO.bind ?_ (fun _ => ?_))
      | exact ih0 _ _ _ _ _
      | exact ih1 _ _ _ _ _ _
      | exact slices_Index_bool_bool.mono _ _ _
      | exact LeO.none _
      | refine LeO.ite ?_ ?_
      | refine LeO.bind ?_ (fun _ => ?_)
set_option maxHeartbeats 8000000 in
set_option maxRecDepth 100000 in
theorem impl_freeStretches.calls (k : Nat) (A0 : Option Addr) (c0 : Nat) (l0 : List Bool) (r : List (S96)) (w : World) (hr0 : Kd.C Kd.bool w A0 l0.length l0) (hc0 : l0.length ≤ c0) (h : impl_freeStretches.f k l0 = some r) :
    Calls Try.prog 75 #[.slice A0 l0.length c0] w fun e w' => ∃ v0_ : Value, e = .returned (v0_) ∧ Kd.R k96 96 w' w.heap.size (fun _ => True) v0_ r ∧ Below w.heap.size w w' := by
  have hu96 := Try.underlying96
  have HR0 := Aside0.mk hr0
  have HC0 := Aside0.mk hc0
  clear hr0 hc0
  have HB := Aside0.mk (Below.refl w.heap.size w)
  have H : ((slices_Index_bool_bool.f k l0 true).bind fun t132 => (if t132 < 0 then (some (([(⟨0, (l0.length : Int)⟩ : S96)] : List (S96)))) else (impl_freeStretches.l0 k l0 (l0.length : Int) (([] : List (S96))) t132 t132))) = some r := h
  clear h
  replace H := Option.bind_eq_some_iff.mp H
  obtain ⟨t132, A20, H⟩ := H
  replace H : (if t132 < 0 then (some (([(⟨0, (l0.length : Int)⟩ : S96)] : List (S96)))) else (impl_freeStretches.l0 k l0 (l0.length : Int) (([] : List (S96))) t132 t132)) = some r := H
  have A2 := Aside0.mk A20
  clear A20
  by_cases c3 : t132 < 0
  · rw [if_pos c3] at H
    have c3b0 : decide (t132 < 0) = true := decide_eq_true c3
    clear c3
    obtain ⟨y133, hy133⟩ : ∃ y_ : List (S96), y_ = (([(⟨0, (l0.length : Int)⟩ : S96)] : List (S96))) := ⟨_, rfl⟩
    replace H : (some y133) = some r := by first | (rw [hy133]; with_reducible exact H) | (have H2_ := (Option.bind_some _ _).symm.trans H; rw [hy133]; with_reducible exact H2_) | (have H2_ := (Option.bind_some _ _).symm.trans H; with_reducible exact H2_) | with_reducible exact H | (rw [hy133]; exact H) | exact H
    have Ny133 := Aside0.mk hy133
    clear hy133
    obtain rfl := Option.some.inj H
    go_enter Try.func75, Try.ntmps75
    go_wp2_with (first | ((with_reducible refine gate_callee (f := 94) rfl ?_); refine goesL_ (some 12) rfl rfl Try.func94 (by kernel_rfl) rfl #[.slice A0 l0.length c0, .bool true] rfl (by (try simp only [List.map_toArray, List.map_cons, List.map_nil]); first | done | rfl | (simp only [List.length_drop, List.length_take]; rfl)) ?_; (with_reducible refine (slices_Index_bool_bool.calls k _ _ l0 true t132 _ ?side1 ?side2 A2.out).mono ?_); (case side1 => repeat (first | exact HR0.out | (with_reducible refine Kd.C_alloc ?_ _) | (with_reducible refine Kd.C_drewN ?_ _) | (with_reducible refine Kd.C_drew ?_))); (case side2 => exact HC0.out); rintro e w' ⟨rfl, ⟨nd, rfl⟩⟩; refine ⟨_, rfl, ?_⟩) | ((with_reducible refine gate_dst (N := 17) rfl ?_); refine Kd.R_lit k96 _ 96 ?hg (N := 17) ?hd (xs := ([(⟨0, (l0.length : Int)⟩ : S96)] : List (S96))) (inner := [.int .i64 0, .int .i64 (l0.length : Int)]) (ok := fun _ => True) (okp := fun _ => True) ?hr ?hp (fun _ hk => hk) trivial (Below.refl _ _) (Nat.le_refl _) (by simp) ?_; (case hd => rfl); (case hg => rfl); (case hr => first | (go_simp; done) | (go_simp; rfl)); (case hp => exact (Reps.c2 (show Kd.M k96 _ _ _ (⟨0, (l0.length : Int)⟩ : S96) [.int .i64 0, .int .i64 (l0.length : Int)] from (k96_mkM _ _ _ (⟨0, (l0.length : Int)⟩ : S96) )) (Reps.none _ _))); intro v134 w4 ho5 hb hg_ hnew_; clear hg_ hnew_; (first | rw [← Ny133.out] at ho5 | (simp only [Int.reduceToNat] at ho5; rw [← Ny133.out] at ho5)); have n0_ := Aside0.mk (Kd.R_lower ho5 (below_size (by repeat (first | (with_reducible first | exact HB.out | apply below_alloc | apply pw_below_drewN | apply below_drew1) | exact HB.out)))); have n1_ := Aside0.mk (below_step (by repeat (first | (with_reducible first | exact HB.out | apply below_alloc | apply pw_below_drewN | apply below_drew1) | exact HB.out)) hb); clear HB; have HO135 := n0_; have HB := n1_; clear n0_ n1_; clear hb ho5))
    go_ret
    exact ⟨_, by first | rfl | (simp [errW_none, errW_some] <;> rfl) | (simp [*, errW_none, errW_some] <;> rfl), by (with_reducible repeat (first | apply Kd.R_alloc | apply Kd.R_drewN | apply Kd.R_drew)); exact HO135.out, by repeat (first | (with_reducible first | exact HB.out | apply below_alloc | apply pw_below_drewN | apply below_drew1) | exact HB.out)⟩
  · rw [if_neg c3] at H
    have c3b0 : decide (t132 < 0) = false := decide_eq_false c3
    clear c3
    obtain ⟨y136, hy136⟩ : ∃ y_ : List (S96), y_ = (([] : List (S96))) := ⟨_, rfl⟩
    replace H : (impl_freeStretches.l0 k l0 (l0.length : Int) y136 t132 t132) = some r := by first | (rw [hy136]; with_reducible exact H) | (have H2_ := (Option.bind_some _ _).symm.trans H; rw [hy136]; with_reducible exact H2_) | (have H2_ := (Option.bind_some _ _).symm.trans H; with_reducible exact H2_) | with_reducible exact H | (rw [hy136]; exact H) | exact H
    have Ny136 := Aside0.mk hy136
    clear hy136
    have H' := Aside0.mk H
    clear H
    go_enter Try.func75, Try.ntmps75
    go_wp2_with (first | ((with_reducible refine gate_callee (f := 94) rfl ?_); refine goesL_ (some 12) rfl rfl Try.func94 (by kernel_rfl) rfl #[.slice A0 l0.length c0, .bool true] rfl (by (try simp only [List.map_toArray, List.map_cons, List.map_nil]); first | done | rfl | (simp only [List.length_drop, List.length_take]; rfl)) ?_; (with_reducible refine (slices_Index_bool_bool.calls k _ _ l0 true t132 _ ?side1 ?side2 A2.out).mono ?_); (case side1 => repeat (first | exact HR0.out | (with_reducible refine Kd.C_alloc ?_ _) | (with_reducible refine Kd.C_drewN ?_ _) | (with_reducible refine Kd.C_drew ?_))); (case side2 => exact HC0.out); rintro e w' ⟨rfl, ⟨nd, rfl⟩⟩; refine ⟨_, rfl, ?_⟩) | ((with_reducible refine gate_dst (N := 18) rfl ?_); refine Kd.R_lit k96 _ 96 ?hg (N := 18) ?hd (xs := ([] : List (S96))) (inner := []) (ok := fun _ => True) (okp := fun _ => True) ?hr ?hp (fun _ hk => hk) trivial (Below.refl _ _) (Nat.le_refl _) (by simp) ?_; (case hd => rfl); (case hg => rfl); (case hr => first | (go_simp; done) | (go_simp; rfl)); (case hp => exact (Reps.none _ _)); intro v137 w6 ho7 hb hg_ hnew_; clear hg_ hnew_; (first | rw [← Ny136.out] at ho7 | (simp only [Int.reduceToNat] at ho7; rw [← Ny136.out] at ho7)); have n0_ := Aside0.mk (Kd.R_lower ho7 (below_size (by repeat (first | (with_reducible first | exact HB.out | apply below_alloc | apply pw_below_drewN | apply below_drew1) | exact HB.out)))); have n1_ := Aside0.mk (below_step (by repeat (first | (with_reducible first | exact HB.out | apply below_alloc | apply pw_below_drewN | apply below_drew1) | exact HB.out)) hb); clear HB; have HO138 := n0_; have HB := n1_; clear n0_ n1_; clear hb ho7))
    go_loopg [5, 7] k (fun kq v5 v7 w' => ∃ (x5_1 : List (S96)) (x7_1 : Int), v7 = .int .i64 x7_1 ∧ Aside0 (impl_freeStretches.l0 kq l0 (l0.length : Int) x5_1 t132 x7_1 = some r) ∧ Aside0 (kq ≤ k) ∧ Aside0 (Kd.R k96 96 w' w.heap.size (fun _ => True) v5 x5_1) ∧ Aside0 (Below w.heap.size w w'))
    case atStart => exact ⟨(y136), (t132), (by first | rfl | (simp; done) | (simp [*]; done) | (simp [i64_w, i32_w]; done)), H', ⟨Nat.le_refl _⟩, ⟨by (with_reducible repeat (first | apply Kd.R_alloc | apply Kd.R_drewN | apply Kd.R_drew)); exact HO138.out⟩, ⟨by repeat (first | (with_reducible first | exact HB.out | apply below_alloc | apply pw_below_drewN | apply below_drew1) | exact HB.out)⟩⟩
    case round =>
      clear H'
      try clear c2
      try clear p2
      try clear c3
      try clear c3b0
      try clear c7
      obtain ⟨x5_1, x7_1, rfl, HA, HK1, HO_5, HB⟩ := hrel
      cases gk with
      | zero => exact absurd HA.out (by simp [impl_freeStretches.l0])
      | succ k1 =>
        have H := HA.out
        clear HA
        simp only [impl_freeStretches.l0] at H
        by_cases c8 : x7_1 < (wrap64 (t132 + (l0.length : Int)))
        · rw [if_pos c8] at H
          have c8b0 : decide (x7_1 < (wrap64 (t132 + (l0.length : Int)))) = true := decide_eq_true c8
          clear c8
          have H' := Aside0.mk H
          clear H
          go_wp2
          go_loopg [8] k1 (fun kq v8 w' => ∃ (x8_2 : Int), v8 = .int .i64 x8_2 ∧ Aside0 (impl_freeStretches.l1 kq l0 (l0.length : Int) x5_1 t132 x7_1 x8_2 = some r) ∧ Aside0 (kq ≤ k1) ∧ Aside0 (Kd.R k96 96 w' w.heap.size (fun _ => True) u5 x5_1) ∧ Aside0 (Below w.heap.size w w'))
          case atStart => exact ⟨(x7_1), (by first | rfl | (simp; done) | (simp [*]; done) | (simp [i64_w, i32_w]; done)), H', ⟨Nat.le_refl _⟩, ⟨by (with_reducible repeat (first | apply Kd.R_alloc | apply Kd.R_drewN | apply Kd.R_drew)); exact HO_5.out⟩, ⟨by repeat (first | (with_reducible first | exact HB.out | apply below_alloc | apply pw_below_drewN | apply below_drew1) | exact HB.out)⟩⟩
          case round =>
            clear H'
            try clear c2
            try clear p2
            try clear c3
            try clear c3b0
            try clear p6
            try clear c7
            try clear c8
            try clear c8b0
            try clear p2
            obtain ⟨x8_2, rfl, HA, HK2, HO_5, HB⟩ := hrel
            cases gk with
            | zero => exact absurd HA.out (by simp [impl_freeStretches.l1])
            | succ k2 =>
              have H := HA.out
              clear HA
              simp only [impl_freeStretches.l1] at H
              by_cases c9 : x8_2 < (wrap64 (t132 + (l0.length : Int)))
              · rw [if_pos c9] at H
                have c9b0 : decide (x8_2 < (wrap64 (t132 + (l0.length : Int)))) = true := decide_eq_true c9
                clear c9
                by_cases c10 : (l0.length : Int) = 0
                · rw [if_pos c10] at H
                  exact absurd H (by simp)
                · rw [if_neg c10] at H
                  have c10b0 : ((l0.length : Int) == 0) = false := beq_eq_false_iff_ne.mpr c10
                  have c10b1 : ((l0.length : Int) != 0) = true := bne_iff_ne.mpr c10
                  have c10b2 : ¬ (l0 = []) := fun h_ => c10 (by rw [h_]; rfl)
                  obtain ⟨ji11, hji11⟩ : ∃ j_ : Int, (Int.tmod x8_2 (l0.length : Int)) = j_ := ⟨_, rfl⟩
                  replace H : (if 0 ≤ (ji11) then (if (ji11) < (l0.length : Int) then (if (rdOf false l0 (ji11) = true) then (if x8_2 > x7_1 then (if x5_1.length < 8796093022208 then (impl_freeStretches.l0 k2 l0 (l0.length : Int) (x5_1 ++ [(⟨Int.tmod x7_1 (l0.length : Int), wrap64 (x8_2 - x7_1)⟩ : S96)]) t132 (wrap64 (x8_2 + 1))) else (none)) else (impl_freeStretches.l0 k2 l0 (l0.length : Int) x5_1 t132 (wrap64 (x8_2 + 1)))) else (impl_freeStretches.l1 k2 l0 (l0.length : Int) x5_1 t132 x7_1 (wrap64 (x8_2 + 1)))) else (none)) else (none)) = some r := by first | (rw [hji11] at H; exact H) | (simp only [hji11] at H ⊢; exact H)
                  by_cases c12 : 0 ≤ (ji11)
                  · rw [if_pos c12] at H
                    have c12b0 : decide (0 ≤ (ji11)) = true := decide_eq_true c12
                    clear c12
                    by_cases c13 : (ji11) < (l0.length : Int)
                    · rw [if_pos c13] at H
                      have c13b0 : decide ((ji11) < (l0.length : Int)) = true := decide_eq_true c13
                      clear c13
                      obtain ⟨bq14, hbq14⟩ : ∃ b_ : Bool, b_ = (rdOf false l0 (ji11)) := ⟨_, rfl⟩
                      replace H : (if (bq14 = true) then (if x8_2 > x7_1 then (if x5_1.length < 8796093022208 then (impl_freeStretches.l0 k2 l0 (l0.length : Int) (x5_1 ++ [(⟨Int.tmod x7_1 (l0.length : Int), wrap64 (x8_2 - x7_1)⟩ : S96)]) t132 (wrap64 (x8_2 + 1))) else (none)) else (impl_freeStretches.l0 k2 l0 (l0.length : Int) x5_1 t132 (wrap64 (x8_2 + 1)))) else (impl_freeStretches.l1 k2 l0 (l0.length : Int) x5_1 t132 x7_1 (wrap64 (x8_2 + 1)))) = some r := by rw [← hbq14] at H; exact H
                      have Nbq14 := Aside0.mk hbq14
                      clear hbq14
                      by_cases c15 : (bq14 = true)
                      · subst c15
                        have H1 : (if x8_2 > x7_1 then (if x5_1.length < 8796093022208 then (impl_freeStretches.l0 k2 l0 (l0.length : Int) (x5_1 ++ [(⟨Int.tmod x7_1 (l0.length : Int), wrap64 (x8_2 - x7_1)⟩ : S96)]) t132 (wrap64 (x8_2 + 1))) else (none)) else (impl_freeStretches.l0 k2 l0 (l0.length : Int) x5_1 t132 (wrap64 (x8_2 + 1)))) = some r := by rw [if_pos rfl] at H; exact H
                        clear H
                        have H := H1
                        clear H1
                        by_cases c16 : x8_2 > x7_1
                        · rw [if_pos c16] at H
                          have c16b0 : decide (x7_1 < x8_2) = true := decide_eq_true c16
                          clear c16
                          by_cases c17 : x5_1.length < 8796093022208
                          · rw [if_pos c17] at H
                            have LMc17 := Aside0.mk c17
                            clear c17
                            obtain ⟨y141, hy141⟩ : ∃ y_ : List (S96), y_ = (x5_1 ++ [(⟨Int.tmod x7_1 (l0.length : Int), wrap64 (x8_2 - x7_1)⟩ : S96)]) := ⟨_, rfl⟩
                            replace H : (impl_freeStretches.l0 k2 l0 (l0.length : Int) y141 t132 (wrap64 (x8_2 + 1))) = some r := by first | (rw [hy141]; with_reducible exact H) | (have H2_ := (Option.bind_some _ _).symm.trans H; rw [hy141]; with_reducible exact H2_) | (have H2_ := (Option.bind_some _ _).symm.trans H; with_reducible exact H2_) | with_reducible exact H | (rw [hy141]; exact H) | exact H
                            have Ny141 := Aside0.mk hy141
                            clear hy141
                            have H' := Aside0.mk H
                            clear H
                            have p140 : 0 ≤ ((ji11) : Int) := of_decide_eq_true (by first | (with_reducible assumption) | assumption)
                            have q140 : (ji11) < (l0.length : Int) := of_decide_eq_true (by first | (with_reducible assumption) | assumption)
                            obtain ⟨ad140, e140, hx140_0⟩ := Kd.at_bool HR0.out (ji11) p140 q140
                            (try rw [← Nbq14.out] at hx140_0)
                            cases e140
                            replace hx140_0 := (HB.out.cell (World.block_lt_of_cell? w _ hx140_0)).trans hx140_0
                            replace p140 := eq_true p140
                            replace q140 := eq_true q140
                            go_wp2_with (first | ((with_reducible refine gate_builtin (b := .append) (xs := #[.tmp 46, .tmp 54]) rfl ?_); at_builtin; refine Kd.R_append k96 (w0 := w) w.heap.size rfl (.tmp 46) (.tmp 54) 61 96 (.agg #[(.int .i64 0), (.int .i64 0)]) 16 rfl Try.underlying61 info96 rfl (by decide) (by omega) u5 x5_1 (⟨Int.tmod x7_1 (l0.length : Int), wrap64 (x8_2 - x7_1)⟩ : S96) [.int .i64 (Int.tmod x7_1 (l0.length : Int)), .int .i64 (wrap64 (x8_2 - x7_1))] (fun _ => True) (fun _ => False) rfl rfl ?aP (fun _ hk => hk.elim) ?aF ?aO ?aB ?aS ?aL ?_; (case aP => exact k96_mkM _ _ _ (⟨Int.tmod x7_1 (l0.length : Int), wrap64 (x8_2 - x7_1)⟩ : S96)); (case aB => exact (by repeat (first | (with_reducible first | exact HB.out | apply below_alloc | apply pw_below_drewN | apply below_drew1) | exact HB.out))); (case aF => exact (fun _ _ => trivial)); (case aO => exact (by (with_reducible repeat (first | apply Kd.R_alloc | apply Kd.R_drewN | apply Kd.R_drew)); exact HO_5.out)); (case aS => exact (below_size (by repeat (first | (with_reducible first | exact HB.out | apply below_alloc | apply pw_below_drewN | apply below_drew1) | exact HB.out)))); (case aL => have := LMc17.out; omega); intro v142 w18 ho hb hg hat; rw [← Ny141.out] at ho; have n0_ := Aside0.mk (hb); have n1_ := Aside0.mk (ho); clear HB; clear HO_5; have HB := n0_; have HO143 := n1_; clear n0_ n1_; clear ho hb hg hat))
                            go_roundg k2
                            case measure => have := HK1.out; have := HK2.out; omega
                            case rel => exact ⟨(y141), (wrap64 (x8_2 + 1)), (by first | rfl | (simp; done) | (simp [*]; done) | (simp [i64_w, i32_w]; done)), H', ⟨by have := HK1.out; have := HK2.out; omega⟩, ⟨by (with_reducible repeat (first | apply Kd.R_alloc | apply Kd.R_drewN | apply Kd.R_drew)); exact HO143.out⟩, ⟨by repeat (first | (with_reducible first | exact HB.out | apply below_alloc | apply pw_below_drewN | apply below_drew1) | exact HB.out)⟩⟩
                          · rw [if_neg c17] at H
                            exact absurd H (by simp)
                        · rw [if_neg c16] at H
                          have c16b0 : decide (x7_1 < x8_2) = false := decide_eq_false c16
                          clear c16
                          have H' := Aside0.mk H
                          clear H
                          have p140 : 0 ≤ ((ji11) : Int) := of_decide_eq_true (by first | (with_reducible assumption) | assumption)
                          have q140 : (ji11) < (l0.length : Int) := of_decide_eq_true (by first | (with_reducible assumption) | assumption)
                          obtain ⟨ad140, e140, hx140_0⟩ := Kd.at_bool HR0.out (ji11) p140 q140
                          (try rw [← Nbq14.out] at hx140_0)
                          cases e140
                          replace hx140_0 := (HB.out.cell (World.block_lt_of_cell? w _ hx140_0)).trans hx140_0
                          replace p140 := eq_true p140
                          replace q140 := eq_true q140
                          go_wp2
                          go_roundg k2
                          case measure => have := HK1.out; have := HK2.out; omega
                          case rel => exact ⟨(x5_1), (wrap64 (x8_2 + 1)), (by first | rfl | (simp; done) | (simp [*]; done) | (simp [i64_w, i32_w]; done)), H', ⟨by have := HK1.out; have := HK2.out; omega⟩, ⟨by (with_reducible repeat (first | apply Kd.R_alloc | apply Kd.R_drewN | apply Kd.R_drew)); exact HO_5.out⟩, ⟨by repeat (first | (with_reducible first | exact HB.out | apply below_alloc | apply pw_below_drewN | apply below_drew1) | exact HB.out)⟩⟩
                      · replace c15 := Bool.eq_false_iff.mpr c15
                        subst c15
                        have H1 : (impl_freeStretches.l1 k2 l0 (l0.length : Int) x5_1 t132 x7_1 (wrap64 (x8_2 + 1))) = some r := by rw [if_neg (show ¬ (false = true) by decide)] at H; exact H
                        clear H
                        have H := H1
                        clear H1
                        have H' := Aside0.mk H
                        clear H
                        have p140 : 0 ≤ ((ji11) : Int) := of_decide_eq_true (by first | (with_reducible assumption) | assumption)
                        have q140 : (ji11) < (l0.length : Int) := of_decide_eq_true (by first | (with_reducible assumption) | assumption)
                        obtain ⟨ad140, e140, hx140_0⟩ := Kd.at_bool HR0.out (ji11) p140 q140
                        (try rw [← Nbq14.out] at hx140_0)
                        cases e140
                        replace hx140_0 := (HB.out.cell (World.block_lt_of_cell? w _ hx140_0)).trans hx140_0
                        replace p140 := eq_true p140
                        replace q140 := eq_true q140
                        go_wp2
                        go_roundg k2
                        case measure => have := HK1.out; have := HK2.out; omega
                        case rel => exact ⟨(wrap64 (x8_2 + 1)), (by first | rfl | (simp; done) | (simp [*]; done) | (simp [i64_w, i32_w]; done)), H', ⟨by have := HK1.out; have := HK2.out; omega⟩, ⟨by (with_reducible repeat (first | apply Kd.R_alloc | apply Kd.R_drewN | apply Kd.R_drew)); exact HO_5.out⟩, ⟨by repeat (first | (with_reducible first | exact HB.out | apply below_alloc | apply pw_below_drewN | apply below_drew1) | exact HB.out)⟩⟩
                    · rw [if_neg c13] at H
                      exact absurd H (by simp)
                  · rw [if_neg c12] at H
                    exact absurd H (by simp)
              · rw [if_neg c9] at H
                have c9b0 : decide (x8_2 < (wrap64 (t132 + (l0.length : Int)))) = false := decide_eq_false c9
                clear c9
                by_cases c19 : x8_2 > x7_1
                · rw [if_pos c19] at H
                  have c19b0 : decide (x7_1 < x8_2) = true := decide_eq_true c19
                  clear c19
                  by_cases c20 : (l0.length : Int) = 0
                  · rw [if_pos c20] at H
                    exact absurd H (by simp)
                  · rw [if_neg c20] at H
                    have c20b0 : ((l0.length : Int) == 0) = false := beq_eq_false_iff_ne.mpr c20
                    have c20b1 : ((l0.length : Int) != 0) = true := bne_iff_ne.mpr c20
                    have c20b2 : ¬ (l0 = []) := fun h_ => c20 (by rw [h_]; rfl)
                    by_cases c21 : x5_1.length < 8796093022208
                    · rw [if_pos c21] at H
                      have LMc21 := Aside0.mk c21
                      clear c21
                      obtain ⟨y144, hy144⟩ : ∃ y_ : List (S96), y_ = (x5_1 ++ [(⟨Int.tmod x7_1 (l0.length : Int), wrap64 (x8_2 - x7_1)⟩ : S96)]) := ⟨_, rfl⟩
                      replace H : (impl_freeStretches.l0 k2 l0 (l0.length : Int) y144 t132 (wrap64 (x8_2 + 1))) = some r := by first | (rw [hy144]; with_reducible exact H) | (have H2_ := (Option.bind_some _ _).symm.trans H; rw [hy144]; with_reducible exact H2_) | (have H2_ := (Option.bind_some _ _).symm.trans H; with_reducible exact H2_) | with_reducible exact H | (rw [hy144]; exact H) | exact H
                      have Ny144 := Aside0.mk hy144
                      clear hy144
                      have H' := Aside0.mk H
                      clear H
                      go_wp2_with (first | ((with_reducible refine gate_builtin (b := .append) (xs := #[.tmp 46, .tmp 54]) rfl ?_); at_builtin; refine Kd.R_append k96 (w0 := w) w.heap.size rfl (.tmp 46) (.tmp 54) 61 96 (.agg #[(.int .i64 0), (.int .i64 0)]) 16 rfl Try.underlying61 info96 rfl (by decide) (by omega) u5 x5_1 (⟨Int.tmod x7_1 (l0.length : Int), wrap64 (x8_2 - x7_1)⟩ : S96) [.int .i64 (Int.tmod x7_1 (l0.length : Int)), .int .i64 (wrap64 (x8_2 - x7_1))] (fun _ => True) (fun _ => False) rfl rfl ?aP (fun _ hk => hk.elim) ?aF ?aO ?aB ?aS ?aL ?_; (case aP => exact k96_mkM _ _ _ (⟨Int.tmod x7_1 (l0.length : Int), wrap64 (x8_2 - x7_1)⟩ : S96)); (case aB => exact (by repeat (first | (with_reducible first | exact HB.out | apply below_alloc | apply pw_below_drewN | apply below_drew1) | exact HB.out))); (case aF => exact (fun _ _ => trivial)); (case aO => exact (by (with_reducible repeat (first | apply Kd.R_alloc | apply Kd.R_drewN | apply Kd.R_drew)); exact HO_5.out)); (case aS => exact (below_size (by repeat (first | (with_reducible first | exact HB.out | apply below_alloc | apply pw_below_drewN | apply below_drew1) | exact HB.out)))); (case aL => have := LMc21.out; omega); intro v145 w22 ho hb hg hat; rw [← Ny144.out] at ho; have n0_ := Aside0.mk (hb); have n1_ := Aside0.mk (ho); clear HB; clear HO_5; have HB := n0_; have HO146 := n1_; clear n0_ n1_; clear ho hb hg hat))
                      go_roundg k2
                      case measure => have := HK1.out; have := HK2.out; omega
                      case rel => exact ⟨(y144), (wrap64 (x8_2 + 1)), (by first | rfl | (simp; done) | (simp [*]; done) | (simp [i64_w, i32_w]; done)), H', ⟨by have := HK1.out; have := HK2.out; omega⟩, ⟨by (with_reducible repeat (first | apply Kd.R_alloc | apply Kd.R_drewN | apply Kd.R_drew)); exact HO146.out⟩, ⟨by repeat (first | (with_reducible first | exact HB.out | apply below_alloc | apply pw_below_drewN | apply below_drew1) | exact HB.out)⟩⟩
                    · rw [if_neg c21] at H
                      exact absurd H (by simp)
                · rw [if_neg c19] at H
                  have c19b0 : decide (x7_1 < x8_2) = false := decide_eq_false c19
                  clear c19
                  have H' := Aside0.mk H
                  clear H
                  go_wp2
                  go_roundg k2
                  case measure => have := HK1.out; have := HK2.out; omega
                  case rel => exact ⟨(x5_1), (wrap64 (x8_2 + 1)), (by first | rfl | (simp; done) | (simp [*]; done) | (simp [i64_w, i32_w]; done)), H', ⟨by have := HK1.out; have := HK2.out; omega⟩, ⟨by (with_reducible repeat (first | apply Kd.R_alloc | apply Kd.R_drewN | apply Kd.R_drew)); exact HO_5.out⟩, ⟨by repeat (first | (with_reducible first | exact HB.out | apply below_alloc | apply pw_below_drewN | apply below_drew1) | exact HB.out)⟩⟩
        · rw [if_neg c8] at H
          have c8b0 : decide (x7_1 < (wrap64 (t132 + (l0.length : Int)))) = false := decide_eq_false c8
          clear c8
          replace H := Option.bind_eq_some_iff.mp H
          obtain ⟨t139, A230, H⟩ := H
          replace H : (some t139) = some r := H
          have A23 := Aside0.mk A230
          clear A230
          obtain rfl := Option.some.inj H
          obtain ⟨Ao24, co24, eo24⟩ := Kd.R_slice HO_5.out
          subst eo24
          go_wp2_with (first | ((with_reducible refine gate_callee (f := 95) rfl ?_); refine goesL_ (some 59) rfl rfl Try.func95 (by kernel_rfl) rfl #[.slice Ao24 x5_1.length co24, .func (.func 96) #[] #[]] rfl (by (try simp only [List.map_toArray, List.map_cons, List.map_nil]); first | done | rfl | (simp only [List.length_drop, List.length_take]; rfl)) ?_; (with_reducible refine (slices_SortFunc_2_int64_2_int64.calls (fun k_ => some k_ = (.slice Ao24 x5_1.length co24 : Value).ownBlock) (.slice Ao24 x5_1.length co24) x5_1 t139 w _ ?side1 ?side2 A23.out).mono ?_); (case side1 => repeat (first | (with_reducible first | exact HB.out | apply below_alloc | apply pw_below_drewN | apply below_drew1) | exact HB.out)); (case side2 => exact Kd.R_tight rfl HO_5.out); rintro e w25 ⟨rfl, hy0, hb, hkp⟩; refine ⟨_, rfl, ?_⟩; have n0_ := Aside0.mk (Kd.R_reok rfl hy0 (fun k_ e_ => HO_5.out.1 k_ e_)); have n1_ := Aside0.mk (hb); clear HO_5; clear HB; have HO_5 := n0_; have HB := n1_; clear n0_ n1_; (try clear hb); (try clear hkp); (try clear hy0)))
          go_ret
          exact ⟨_, by first | rfl | (simp [errW_none, errW_some] <;> rfl) | (simp [*, errW_none, errW_some] <;> rfl), by (with_reducible repeat (first | apply Kd.R_alloc | apply Kd.R_drewN | apply Kd.R_drew)); exact HO_5.out, by repeat (first | (with_reducible first | exact HB.out | apply below_alloc | apply pw_below_drewN | apply below_drew1) | exact HB.out)⟩

/-! ### impl_FreeStretches: function 37 -/
def impl_FreeStretches.f (k : Nat) (l0 : List Bool) : Option ((List (S96)) × Int) := (impl_isSteps.f (l0.length : Int)).bind fun t147 => (if t147 = true then ((impl_freeStretches.f k l0).bind fun t148 => (some (t148, 0))) else (some (([] : List (S96)), 2)))
theorem impl_FreeStretches.mono : ∀ a0 k, LeO (impl_FreeStretches.f k a0) (impl_FreeStretches.f (k + 1) a0) := by
  intro a0 k
  unfold impl_FreeStretches.f
  repeat' first
      | (with_reducible exact impl_freeStretches.mono _ _)
      | (with_reducible exact LeO.refl _)
      | (with_reducible exact LeO.none _)
      | (with_reducible refine LeO.ite ?_ ?_)
      | (with_reducible refine LeO.bind ?_ (fun _ => ?_))
      | exact impl_freeStretches.mono _ _
      | exact LeO.none _
      | refine LeO.ite ?_ ?_
      | refine LeO.bind ?_ (fun _ => ?_)
set_option maxHeartbeats 8000000 in
set_option maxRecDepth 100000 in
theorem impl_FreeStretches.calls (k : Nat) (A0 : Option Addr) (c0 : Nat) (l0 : List Bool) (r1 : List (S96)) (r2 : Int) (w : World) (hr0 : Kd.C Kd.bool w A0 l0.length l0) (hc0 : l0.length ≤ c0) (h : impl_FreeStretches.f k l0 = some (r1, r2)) :
    Calls Try.prog 37 #[.slice A0 l0.length c0] w fun e w' => ∃ v0_ : Value, e = .returned (.tuple #[v0_, .int .i64 r2]) ∧ Kd.R k96 96 w' w.heap.size (fun _ => True) v0_ r1 ∧ Below w.heap.size w w' := by
  have HR0 := Aside0.mk hr0
  have HC0 := Aside0.mk hc0
  clear hr0 hc0
  have HB := Aside0.mk (Below.refl w.heap.size w)
  have H : ((impl_isSteps.f (l0.length : Int)).bind fun t147 => (if t147 = true then ((impl_freeStretches.f k l0).bind fun t148 => (some (t148, 0))) else (some (([] : List (S96)), 2)))) = some (r1, r2) := h
  clear h
  replace H := Option.bind_eq_some_iff.mp H
  obtain ⟨t147, A20, H⟩ := H
  replace H : (if t147 = true then ((impl_freeStretches.f k l0).bind fun t148 => (some (t148, 0))) else (some (([] : List (S96)), 2))) = some (r1, r2) := H
  have A2 := Aside0.mk A20
  clear A20
  by_cases c3 : t147 = true
  · subst c3
    have H1 : ((impl_freeStretches.f k l0).bind fun t148 => (some (t148, 0))) = some (r1, r2) := by rw [if_pos rfl] at H; exact H
    clear H
    have H := H1
    clear H1
    replace H := Option.bind_eq_some_iff.mp H
    obtain ⟨t148, A40, H⟩ := H
    replace H : (some (t148, 0)) = some (r1, r2) := H
    have A4 := Aside0.mk A40
    clear A40
    simp only [Option.some.injEq, Prod.mk.injEq] at H
    obtain ⟨rfl, rfl⟩ := H
    go_enter Try.func37, Try.ntmps37
    go_wp2_with (first | ((with_reducible refine gate_callee (f := 69) rfl ?_); refine goesL_ (some 6) rfl rfl Try.func69 (by kernel_rfl) rfl #[.int .i64 (l0.length : Int)] rfl (by (try simp only [List.map_toArray, List.map_cons, List.map_nil]); first | done | rfl | (simp only [List.length_drop, List.length_take]; rfl)) ?_; (with_reducible refine (impl_isSteps.calls (l0.length : Int) true _ A2.out).mono ?_); rintro e w' ⟨rfl, ⟨nd, rfl⟩⟩; refine ⟨_, rfl, ?_⟩) | ((with_reducible refine gate_callee (f := 75) rfl ?_); refine goesL_ (some 9) rfl rfl Try.func75 (by kernel_rfl) rfl #[.slice A0 l0.length c0] rfl (by (try simp only [List.map_toArray, List.map_cons, List.map_nil]); first | done | rfl | (simp only [List.length_drop, List.length_take]; rfl)) ?_; (with_reducible refine (impl_freeStretches.calls k _ _ l0 t148 _ ?side1 ?side2 A4.out).mono ?_); (case side1 => repeat (first | exact HR0.out | (with_reducible refine Kd.C_alloc ?_ _) | (with_reducible refine Kd.C_drewN ?_ _) | (with_reducible refine Kd.C_drew ?_))); (case side2 => exact HC0.out); rintro e w5 ⟨v149, rfl, ho0, hb⟩; refine ⟨_, rfl, ?_⟩; have n0_ := Aside0.mk (Kd.R_lower ho0 (below_size (by repeat (first | (with_reducible first | exact HB.out | apply below_alloc | apply pw_below_drewN | apply below_drew1) | exact HB.out)))); have n1_ := Aside0.mk (below_step (by repeat (first | (with_reducible first | exact HB.out | apply below_alloc | apply pw_below_drewN | apply below_drew1) | exact HB.out)) hb); clear HB; have HO150 := n0_; have HB := n1_; clear n0_ n1_; (try clear hb); (try clear hb2); (try clear hk); (try clear hi); (try clear ho0)))
    go_ret2
    exact ⟨_, by first | rfl | (simp [errW_none, errW_some] <;> rfl) | (simp [*, errW_none, errW_some] <;> rfl), by (with_reducible repeat (first | apply Kd.R_alloc | apply Kd.R_drewN | apply Kd.R_drew)); exact HO150.out, by repeat (first | (with_reducible first | exact HB.out | apply below_alloc | apply pw_below_drewN | apply below_drew1) | exact HB.out)⟩
  · replace c3 := Bool.eq_false_iff.mpr c3
    subst c3
    have H1 : (some (([] : List (S96)), 2)) = some (r1, r2) := by rw [if_neg (show ¬ (false = true) by decide)] at H; exact H
    clear H
    have H := H1
    clear H1
    simp only [Option.some.injEq, Prod.mk.injEq] at H
    obtain ⟨rfl, rfl⟩ := H
    go_enter Try.func37, Try.ntmps37
    go_wp2_with (first | ((with_reducible refine gate_callee (f := 69) rfl ?_); refine goesL_ (some 6) rfl rfl Try.func69 (by kernel_rfl) rfl #[.int .i64 (l0.length : Int)] rfl (by (try simp only [List.map_toArray, List.map_cons, List.map_nil]); first | done | rfl | (simp only [List.length_drop, List.length_take]; rfl)) ?_; (with_reducible refine (impl_isSteps.calls (l0.length : Int) false _ A2.out).mono ?_); rintro e w' ⟨rfl, ⟨nd, rfl⟩⟩; refine ⟨_, rfl, ?_⟩))
    go_ret2
    exact ⟨_, by first | rfl | (simp [errW_none, errW_some] <;> rfl) | (simp [*, errW_none, errW_some] <;> rfl), by first | exact Kd.R_nil _ _ _ _ _ | exact Kd.N_nil _ _ _ _ _ | exact Kd.V_nil _ _ _ _ _ | exact Kd.Q_nil _ _ _ _ _ | exact Kd.S_nil _ _ _ _ _, by repeat (first | (with_reducible first | exact HB.out | apply below_alloc | apply pw_below_drewN | apply below_drew1) | exact HB.out)⟩

/-! ### laws_eqInt64A2: function 76 -/
def laws_eqInt64A2.f (a0_0 : Int) (a0_1 : Int) (a1_0 : Int) (a1_1 : Int) : Option (Bool) := if a0_0 = a1_0 then (if a0_1 = a1_1 then some true else none) else none
theorem laws_eqInt64A2.get {a b : Int} (i : Nat) (h : i < 2) : ∃ x, (#[.int .i64 a, .int .i64 b] : Array Value)[i]? = some (.int .i64 x) := by
  match i, h with
  | 0, _ => exact ⟨a, rfl⟩
  | 1, _ => exact ⟨b, rfl⟩
set_option maxHeartbeats 8000000 in
set_option maxRecDepth 100000 in
theorem laws_eqInt64A2.same (a b : Int) (w : World) : Calls Try.prog 76 #[.agg #[.int .i64 a, .int .i64 b], .agg #[.int .i64 a, .int .i64 b]] w fun e w' => e = .returned (.bool true) ∧ Below w.heap.size w w' := by
  obtain ⟨c, hc⟩ : ∃ c : Array Value, c = #[.int .i64 a, .int .i64 b] := ⟨_, rfl⟩
  rw [← hc]
  have HC := Aside0.mk (show ∀ i, i < 2 → ∃ x, c[i]? = some (.int .i64 x) by rw [hc]; exact fun i h => laws_eqInt64A2.get i h)
  have HB := Aside0.mk (Below.refl w.heap.size w)
  clear hc
  go_enter Try.func76, Try.ntmps76
  go_wp2_with (first | ((with_reducible refine gate_dst (N := 2) rfl ?_); refine box_event ?hg (N := 2) ?hd (cs := c) (t := 96) ?hr ?_; (case hd => rfl); (case hg => rfl); (case hr => first | (go_simp; done) | (go_simp; rfl) | rfl); intro g2 hg w2 hbox hb; have n0_ := Aside0.mk (below_step (by repeat (first | (with_reducible first | exact HB.out | apply below_alloc | apply pw_below_drewN | apply below_drew1) | exact HB.out)) hb); have n1_ := Aside0.mk hbox; clear HB; have HB := n0_; have BK2 := n1_; clear n0_ n1_; clear hb hbox hg) | ((with_reducible refine gate_dst (N := 3) rfl ?_); refine box_event ?hg (N := 3) ?hd (cs := c) (t := 96) ?hr ?_; (case hd => rfl); (case hg => rfl); (case hr => first | (go_simp; done) | (go_simp; rfl) | rfl); intro g3 hg w3 hbox hb; have n0_ := Aside0.mk (below_step (by repeat (first | (with_reducible first | exact HB.out | apply below_alloc | apply pw_below_drewN | apply below_drew1) | exact HB.out)) hb); have n1_ := Aside0.mk hbox; have m0_ := Aside0.mk (blk_below BK2.out hb); clear BK2; have BK2 := m0_; clear m0_; clear HB; have HB := n0_; have BK3 := n1_; clear n0_ n1_; clear hb hbox hg))
  go_loopg [5] 2 (fun kq v5 w' => ∃ i : Nat, v5 = .int .i64 (i : Int) ∧ Aside0 (i + kq = 2) ∧ Aside0 (w'.heap[g2]? = some (.cells c 96 (0, 0))) ∧ Aside0 (w'.heap[g3]? = some (.cells c 96 (0, 0))) ∧ Aside0 (Below w.heap.size w w'))
  case atStart => exact ⟨0, rfl, ⟨by omega⟩, BK2, BK3, HB⟩
  case round =>
    clear BK2 BK3 HB
    obtain ⟨i, rfl, HI, BK2, BK3, HB⟩ := hrel
    by_cases c2 : i < 2
    · cases gk with
      | zero => exact absurd HI.out (by omega)
      | succ k1 =>
        have c2b0 : decide ((i : Int) < 2) = true := decide_eq_true (by omega)
        have c2b1 : decide (i < 2) = true := decide_eq_true c2
        have q1 : ((i : Int) < 2) = True := eq_true (by omega)
        obtain ⟨x, hx⟩ := HC.out i c2
        have HX := Aside0.mk hx
        have HW1 := Aside0.mk (show wrap64 ((i : Int) + 1) = ((i + 1 : Nat) : Int) by unfold wrap64; omega)
        clear hx c2
        go_wp2
        have B2_ := Aside0.mk (blk_drew BK2.out)
        have B3_ := Aside0.mk (blk_drew BK3.out)
        clear BK2 BK3
        have BK2 := B2_
        have BK3 := B3_
        clear B2_ B3_
        have HB_ := Aside0.mk (below_drew1 HB.out)
        clear HB
        have HB := HB_
        clear HB_
        refine start_ (n := 7) (S := fun w' => w'.cell? ⟨g2, i, none⟩ = some (.int .i64 x) ∧ w'.cell? ⟨g3, i, none⟩ = some (.int .i64 x)) (ds := []) #[false, false, false, false, false, false, false] (by kernel_rfl) rfl rfl ⟨(blk_cell BK2.out i).trans HX.out, (blk_cell BK3.out i).trans HX.out⟩ (fun hHeld => ?_)
        generalize wr.drew = w4 at BK2 BK3 HB hHeld ⊢
        refine pure_ (i := 0) (N := some 10) (v := ?_) (a' := ?_) #[true, false, false, false, false, false, false] rfl rfl (by kernel_rfl) (fun _ _ _ h => h) (Or.inl ⟨by rfl, ?_⟩) ?_ ?_
        rotate_left
        · intro w'
          go_simp
          with_reducible rfl
        rotate_left
        · simp only [Act.put, List.setIfInBounds_toArray, List.set_cons_zero, List.set_cons_succ, i64_w, i32_w]
          rfl
        refine pure_ (i := 1) (N := some 11) (v := ?_) (a' := ?_) #[true, true, false, false, false, false, false] rfl rfl (by kernel_rfl) (fun _ _ _ h => h) (Or.inl ⟨by rfl, ?_⟩) ?_ ?_
        rotate_left
        · intro w'
          go_simp
          with_reducible rfl
        rotate_left
        · simp only [Act.put, List.setIfInBounds_toArray, List.set_cons_zero, List.set_cons_succ, i64_w, i32_w]
          rfl
        refine take_ (i := 2) (N := some 12) (v := ?_) (a' := ?_) #[true, true, true, false, false, false, false] rfl rfl (by kernel_rfl) (fun _ _ _ h => h) (Or.inl ⟨by rfl, ?_⟩) hHeld ?_ ?_
        rotate_left
        · rintro w' ⟨s0, s1⟩
          go_simp
          with_reducible rfl
        rotate_left
        · simp only [Act.put, List.setIfInBounds_toArray, List.set_cons_zero, List.set_cons_succ, i64_w, i32_w]
          rfl
        refine pure_ (i := 3) (N := some 13) (v := ?_) (a' := ?_) #[true, true, true, true, false, false, false] rfl rfl (by kernel_rfl) (fun _ _ _ h => h) (Or.inl ⟨by rfl, ?_⟩) ?_ ?_
        rotate_left
        · intro w'
          go_simp
          with_reducible rfl
        rotate_left
        · simp only [Act.put, List.setIfInBounds_toArray, List.set_cons_zero, List.set_cons_succ, i64_w, i32_w]
          rfl
        refine pure_ (i := 4) (N := some 14) (v := ?_) (a' := ?_) #[true, true, true, true, true, false, false] rfl rfl (by kernel_rfl) (fun _ _ _ h => h) (Or.inl ⟨by rfl, ?_⟩) ?_ ?_
        rotate_left
        · intro w'
          go_simp
          with_reducible rfl
        rotate_left
        · simp only [Act.put, List.setIfInBounds_toArray, List.set_cons_zero, List.set_cons_succ, i64_w, i32_w]
          rfl
        refine take_ (i := 5) (N := some 15) (v := ?_) (a' := ?_) #[true, true, true, true, true, true, false] rfl rfl (by kernel_rfl) (fun _ _ _ h => h) (Or.inl ⟨by rfl, ?_⟩) hHeld ?_ ?_
        rotate_left
        · rintro w' ⟨s0, s1⟩
          go_simp
          with_reducible rfl
        rotate_left
        · simp only [Act.put, List.setIfInBounds_toArray, List.set_cons_zero, List.set_cons_succ, i64_w, i32_w]
          rfl
        refine pure_ (i := 6) (N := some 16) (v := ?_) (a' := ?_) #[true, true, true, true, true, true, true] rfl rfl (by kernel_rfl) (fun _ _ _ h => h) (Or.inl ⟨by rfl, ?_⟩) ?_ ?_
        rotate_left
        · intro w'
          go_simp
          with_reducible rfl
        rotate_left
        · simp only [Act.put, List.setIfInBounds_toArray, List.set_cons_zero, List.set_cons_succ, i64_w, i32_w]
          rfl
        refine done_ (by kernel_rfl) ?_
        go_wp2
        go_roundg k1
        case measure => omega
        case rel => exact ⟨i + 1, by rw [← HW1.out], ⟨by have := HI.out; omega⟩, BK2, BK3, HB⟩
    · have c2b0 : decide ((i : Int) < 2) = false := decide_eq_false (by omega)
      have c2b1 : decide (i < 2) = false := decide_eq_false c2
      clear c2
      go_wp2
      go_ret
      exact ⟨rfl, HB.out⟩
theorem laws_eqInt64A2.calls (a0_0 : Int) (a0_1 : Int) (a1_0 : Int) (a1_1 : Int) (r : Bool) (w : World) (h : laws_eqInt64A2.f a0_0 a0_1 a1_0 a1_1 = some r) :
    Calls Try.prog 76 #[.agg #[.int .i64 a0_0, .int .i64 a0_1], .agg #[.int .i64 a1_0, .int .i64 a1_1]] w fun e w' => e = .returned (.bool r) ∧ Below w.heap.size w w' := by
  unfold laws_eqInt64A2.f at h
  split at h
  · rename_i h0
    split at h
    · rename_i h1
      obtain rfl := Option.some.inj h
      subst h0 h1
      exact laws_eqInt64A2.same _ _ w
    · exact absurd h (by simp)
  · exact absurd h (by simp)

end Go.Proofs.Ytpkhneodcndlpaa.FFnExactFreeStretches
