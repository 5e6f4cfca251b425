import Derived.Test.YtcfjdpegllnhfaaDoorRows
import Derived.WalkKit
import Derived.WalkSpells
import Derived.WalkLawsBesides
import Derived.ProofKit
namespace Go.Proofs.YtcfjdpegllnhfaaDoor
open Go.RowKit
set_option linter.unusedVariables false
set_option maxHeartbeats 4000000 in
set_option maxRecDepth 100000 in
theorem l00In_w (a lo hi : Int) (w : World) : Calls Tryd.prog 33 #[.int .i64 a, .int .i64 lo, .int .i64 hi] w fun e w' => e = .returned (.bool (decide (lo ≤ a) && decide (a ≤ hi))) ∧ w' = w := by
  by_cases h : lo ≤ a
  · have h1 : decide (lo ≤ a) = true := decide_eq_true h
    clear h
    go_enter Tryd.func33, Tryd.ntmps33
    go_wp2
    go_ret
    exact ⟨by simp [h1], rfl⟩
  · have h1 : decide (lo ≤ a) = false := decide_eq_false h
    clear h
    go_enter Tryd.func33, Tryd.ntmps33
    go_wp2
    go_ret
    exact ⟨by simp [h1], rfl⟩
set_option maxHeartbeats 4000000 in
set_option maxRecDepth 100000 in
theorem inRange_w (a lo hi : Int) (w : World) : Calls Tryd.prog 58 #[.int .i64 a, .int .i64 lo, .int .i64 hi] w fun e w' => e = .returned (.bool (decide (lo ≤ a) && decide (a ≤ hi))) ∧ w' = w := by
  by_cases h : lo ≤ a
  · have h1 : decide (lo ≤ a) = true := decide_eq_true h
    clear h
    go_enter Tryd.func58, Tryd.ntmps58
    go_wp2
    go_ret
    exact ⟨by simp [h1], rfl⟩
  · have h1 : decide (lo ≤ a) = false := decide_eq_false h
    clear h
    go_enter Tryd.func58, Tryd.ntmps58
    go_wp2
    go_ret
    exact ⟨by simp [h1], rfl⟩
set_option maxHeartbeats 4000000 in
set_option maxRecDepth 100000 in
theorem isPlace_w (a : Int) (w : World) : Calls Tryd.prog 34 #[.int .i64 a, .int .i64 9] w fun e w' => e = .returned (.bool (decide (0 ≤ a) && decide (a ≤ 8))) ∧ w' = w := by
  go_enter Tryd.func34, Tryd.ntmps34
  go_wp2_with (go_at_call 58; refine (inRange_w a 0 8 _).mono ?_; rintro e w' ⟨rfl, rfl⟩)
  go_ret
  exact ⟨rfl, rfl⟩
set_option maxHeartbeats 4000000 in
set_option maxRecDepth 100000 in
theorem spec_0 (w : World) : Calls Tryd.prog 10 #[.int .i64 0] w fun e w' => e = .returned (.string ⟨#[111, 107]⟩) ∧ Below w.heap.size w w' := by
  go_enter Tryd.func10, Tryd.ntmps10
  go_wp2_with (go_at_call 33; refine (l00In_w 0 0 8 _).mono ?_; rintro e w' ⟨rfl, rfl⟩)
  go_ret
  exact ⟨rfl, (Below.refl _ _).alloc (Nat.le_refl _) _⟩
set_option maxHeartbeats 4000000 in
set_option maxRecDepth 100000 in
theorem impl_0 (w : World) (hc : w.cell? ⟨0, 0, none⟩ = some (.string ⟨#[111, 107]⟩)) : Calls Tryd.prog 11 #[.int .i64 0] w fun e w' => e = .returned (.string ⟨#[111, 107]⟩) ∧ w' = w := by
  go_enter Tryd.func11, Tryd.ntmps11
  go_wp2_with (go_at_call 34; refine (isPlace_w 0 _).mono ?_; rintro e w' ⟨rfl, rfl⟩)
  go_ret
  exact ⟨rfl, rfl⟩
set_option maxHeartbeats 4000000 in
set_option maxRecDepth 100000 in
theorem spec_1 (w : World) : Calls Tryd.prog 10 #[.int .i64 1] w fun e w' => e = .returned (.string ⟨#[105, 110, 118, 97, 108, 105, 100]⟩) ∧ Below w.heap.size w w' := by
  go_enter Tryd.func10, Tryd.ntmps10
  go_wp2_with (go_at_call 33; refine (l00In_w 1 0 8 _).mono ?_; rintro e w' ⟨rfl, rfl⟩)
  go_ret
  exact ⟨rfl, (Below.refl _ _).alloc (Nat.le_refl _) _⟩
set_option maxHeartbeats 4000000 in
set_option maxRecDepth 100000 in
theorem impl_1 (w : World) (hc : w.cell? ⟨0, 1, none⟩ = some (.string ⟨#[105, 110, 118, 97, 108, 105, 100]⟩)) : Calls Tryd.prog 11 #[.int .i64 1] w fun e w' => e = .returned (.string ⟨#[105, 110, 118, 97, 108, 105, 100]⟩) ∧ w' = w := by
  go_enter Tryd.func11, Tryd.ntmps11
  go_wp2_with (go_at_call 34; refine (isPlace_w 1 _).mono ?_; rintro e w' ⟨rfl, rfl⟩)
  go_ret
  exact ⟨rfl, rfl⟩
set_option maxHeartbeats 4000000 in
set_option maxRecDepth 100000 in
theorem spec_2 (w : World) : Calls Tryd.prog 10 #[.int .i64 2] w fun e w' => e = .returned (.string ⟨#[114, 97, 110, 103, 101]⟩) ∧ Below w.heap.size w w' := by
  go_enter Tryd.func10, Tryd.ntmps10
  go_wp2_with (go_at_call 33; refine (l00In_w 2 0 8 _).mono ?_; rintro e w' ⟨rfl, rfl⟩)
  go_ret
  exact ⟨rfl, (Below.refl _ _).alloc (Nat.le_refl _) _⟩
set_option maxHeartbeats 4000000 in
set_option maxRecDepth 100000 in
theorem impl_2 (w : World) (hc : w.cell? ⟨0, 2, none⟩ = some (.string ⟨#[114, 97, 110, 103, 101]⟩)) : Calls Tryd.prog 11 #[.int .i64 2] w fun e w' => e = .returned (.string ⟨#[114, 97, 110, 103, 101]⟩) ∧ w' = w := by
  go_enter Tryd.func11, Tryd.ntmps11
  go_wp2_with (go_at_call 34; refine (isPlace_w 2 _).mono ?_; rintro e w' ⟨rfl, rfl⟩)
  go_ret
  exact ⟨rfl, rfl⟩
set_option maxHeartbeats 4000000 in
set_option maxRecDepth 100000 in
theorem spec_3 (w : World) : Calls Tryd.prog 10 #[.int .i64 3] w fun e w' => e = .returned (.string ⟨#[108, 105, 109, 105, 116]⟩) ∧ Below w.heap.size w w' := by
  go_enter Tryd.func10, Tryd.ntmps10
  go_wp2_with (go_at_call 33; refine (l00In_w 3 0 8 _).mono ?_; rintro e w' ⟨rfl, rfl⟩)
  go_ret
  exact ⟨rfl, (Below.refl _ _).alloc (Nat.le_refl _) _⟩
set_option maxHeartbeats 4000000 in
set_option maxRecDepth 100000 in
theorem impl_3 (w : World) (hc : w.cell? ⟨0, 3, none⟩ = some (.string ⟨#[108, 105, 109, 105, 116]⟩)) : Calls Tryd.prog 11 #[.int .i64 3] w fun e w' => e = .returned (.string ⟨#[108, 105, 109, 105, 116]⟩) ∧ w' = w := by
  go_enter Tryd.func11, Tryd.ntmps11
  go_wp2_with (go_at_call 34; refine (isPlace_w 3 _).mono ?_; rintro e w' ⟨rfl, rfl⟩)
  go_ret
  exact ⟨rfl, rfl⟩
set_option maxHeartbeats 4000000 in
set_option maxRecDepth 100000 in
theorem spec_4 (w : World) : Calls Tryd.prog 10 #[.int .i64 4] w fun e w' => e = .returned (.string ⟨#[115, 116, 97, 116, 101]⟩) ∧ Below w.heap.size w w' := by
  go_enter Tryd.func10, Tryd.ntmps10
  go_wp2_with (go_at_call 33; refine (l00In_w 4 0 8 _).mono ?_; rintro e w' ⟨rfl, rfl⟩)
  go_ret
  exact ⟨rfl, (Below.refl _ _).alloc (Nat.le_refl _) _⟩
set_option maxHeartbeats 4000000 in
set_option maxRecDepth 100000 in
theorem impl_4 (w : World) (hc : w.cell? ⟨0, 4, none⟩ = some (.string ⟨#[115, 116, 97, 116, 101]⟩)) : Calls Tryd.prog 11 #[.int .i64 4] w fun e w' => e = .returned (.string ⟨#[115, 116, 97, 116, 101]⟩) ∧ w' = w := by
  go_enter Tryd.func11, Tryd.ntmps11
  go_wp2_with (go_at_call 34; refine (isPlace_w 4 _).mono ?_; rintro e w' ⟨rfl, rfl⟩)
  go_ret
  exact ⟨rfl, rfl⟩
set_option maxHeartbeats 4000000 in
set_option maxRecDepth 100000 in
theorem spec_5 (w : World) : Calls Tryd.prog 10 #[.int .i64 5] w fun e w' => e = .returned (.string ⟨#[115, 121, 110, 116, 97, 120]⟩) ∧ Below w.heap.size w w' := by
  go_enter Tryd.func10, Tryd.ntmps10
  go_wp2_with (go_at_call 33; refine (l00In_w 5 0 8 _).mono ?_; rintro e w' ⟨rfl, rfl⟩)
  go_ret
  exact ⟨rfl, (Below.refl _ _).alloc (Nat.le_refl _) _⟩
set_option maxHeartbeats 4000000 in
set_option maxRecDepth 100000 in
theorem impl_5 (w : World) (hc : w.cell? ⟨0, 5, none⟩ = some (.string ⟨#[115, 121, 110, 116, 97, 120]⟩)) : Calls Tryd.prog 11 #[.int .i64 5] w fun e w' => e = .returned (.string ⟨#[115, 121, 110, 116, 97, 120]⟩) ∧ w' = w := by
  go_enter Tryd.func11, Tryd.ntmps11
  go_wp2_with (go_at_call 34; refine (isPlace_w 5 _).mono ?_; rintro e w' ⟨rfl, rfl⟩)
  go_ret
  exact ⟨rfl, rfl⟩
set_option maxHeartbeats 4000000 in
set_option maxRecDepth 100000 in
theorem spec_6 (w : World) : Calls Tryd.prog 10 #[.int .i64 6] w fun e w' => e = .returned (.string ⟨#[110, 111, 116, 102, 111, 117, 110, 100]⟩) ∧ Below w.heap.size w w' := by
  go_enter Tryd.func10, Tryd.ntmps10
  go_wp2_with (go_at_call 33; refine (l00In_w 6 0 8 _).mono ?_; rintro e w' ⟨rfl, rfl⟩)
  go_ret
  exact ⟨rfl, (Below.refl _ _).alloc (Nat.le_refl _) _⟩
set_option maxHeartbeats 4000000 in
set_option maxRecDepth 100000 in
theorem impl_6 (w : World) (hc : w.cell? ⟨0, 6, none⟩ = some (.string ⟨#[110, 111, 116, 102, 111, 117, 110, 100]⟩)) : Calls Tryd.prog 11 #[.int .i64 6] w fun e w' => e = .returned (.string ⟨#[110, 111, 116, 102, 111, 117, 110, 100]⟩) ∧ w' = w := by
  go_enter Tryd.func11, Tryd.ntmps11
  go_wp2_with (go_at_call 34; refine (isPlace_w 6 _).mono ?_; rintro e w' ⟨rfl, rfl⟩)
  go_ret
  exact ⟨rfl, rfl⟩
set_option maxHeartbeats 4000000 in
set_option maxRecDepth 100000 in
theorem spec_7 (w : World) : Calls Tryd.prog 10 #[.int .i64 7] w fun e w' => e = .returned (.string ⟨#[98, 117, 100, 103, 101, 116]⟩) ∧ Below w.heap.size w w' := by
  go_enter Tryd.func10, Tryd.ntmps10
  go_wp2_with (go_at_call 33; refine (l00In_w 7 0 8 _).mono ?_; rintro e w' ⟨rfl, rfl⟩)
  go_ret
  exact ⟨rfl, (Below.refl _ _).alloc (Nat.le_refl _) _⟩
set_option maxHeartbeats 4000000 in
set_option maxRecDepth 100000 in
theorem impl_7 (w : World) (hc : w.cell? ⟨0, 7, none⟩ = some (.string ⟨#[98, 117, 100, 103, 101, 116]⟩)) : Calls Tryd.prog 11 #[.int .i64 7] w fun e w' => e = .returned (.string ⟨#[98, 117, 100, 103, 101, 116]⟩) ∧ w' = w := by
  go_enter Tryd.func11, Tryd.ntmps11
  go_wp2_with (go_at_call 34; refine (isPlace_w 7 _).mono ?_; rintro e w' ⟨rfl, rfl⟩)
  go_ret
  exact ⟨rfl, rfl⟩
set_option maxHeartbeats 4000000 in
set_option maxRecDepth 100000 in
theorem spec_8 (w : World) : Calls Tryd.prog 10 #[.int .i64 8] w fun e w' => e = .returned (.string ⟨#[112, 114, 111, 111, 102]⟩) ∧ Below w.heap.size w w' := by
  go_enter Tryd.func10, Tryd.ntmps10
  go_wp2_with (go_at_call 33; refine (l00In_w 8 0 8 _).mono ?_; rintro e w' ⟨rfl, rfl⟩)
  go_ret
  exact ⟨rfl, (Below.refl _ _).alloc (Nat.le_refl _) _⟩
set_option maxHeartbeats 4000000 in
set_option maxRecDepth 100000 in
theorem impl_8 (w : World) (hc : w.cell? ⟨0, 8, none⟩ = some (.string ⟨#[112, 114, 111, 111, 102]⟩)) : Calls Tryd.prog 11 #[.int .i64 8] w fun e w' => e = .returned (.string ⟨#[112, 114, 111, 111, 102]⟩) ∧ w' = w := by
  go_enter Tryd.func11, Tryd.ntmps11
  go_wp2_with (go_at_call 34; refine (isPlace_w 8 _).mono ?_; rintro e w' ⟨rfl, rfl⟩)
  go_ret
  exact ⟨rfl, rfl⟩
set_option maxHeartbeats 4000000 in
set_option maxRecDepth 100000 in
theorem spec_out (c : Int) (h : (decide (0 ≤ c) && decide (c ≤ 8)) = false) (w : World) : Calls Tryd.prog 10 #[.int .i64 c] w fun e w' => e = .returned (.string ⟨#[]⟩) ∧ Below w.heap.size w w' := by
  go_enter Tryd.func10, Tryd.ntmps10
  go_wp2_with (go_at_call 33; refine (l00In_w c 0 8 _).mono ?_; rw [h]; rintro e w' ⟨rfl, rfl⟩)
  go_ret
  exact ⟨rfl, (Below.refl _ _).alloc (Nat.le_refl _) _⟩
set_option maxHeartbeats 4000000 in
set_option maxRecDepth 100000 in
theorem impl_out (c : Int) (h : (decide (0 ≤ c) && decide (c ≤ 8)) = false) (w : World) : Calls Tryd.prog 11 #[.int .i64 c] w fun e w' => e = .returned (.string ⟨#[]⟩) ∧ w' = w := by
  go_enter Tryd.func11, Tryd.ntmps11
  go_wp2_with (go_at_call 34; refine (isPlace_w c _).mono ?_; rw [h]; rintro e w' ⟨rfl, rfl⟩)
  go_ret
  exact ⟨rfl, rfl⟩
set_option maxHeartbeats 4000000 in
set_option maxRecDepth 100000 in
theorem law_of (c : Int) (s : ByteArray) (w : World) (hS : ∀ w, Calls Tryd.prog 10 #[.int .i64 c] w fun e w' => e = .returned (.string s) ∧ Below w.heap.size w w')
    (hI : ∀ w1, Below w.heap.size w w1 → Calls Tryd.prog 11 #[.int .i64 c] w1 fun e w' => e = .returned (.string s) ∧ w' = w1) :
    Calls Tryd.prog 3 #[.int .i64 c] w fun e w' => e = .returned (.bool true) ∧ Below w.heap.size w w' := by
  go_enter Tryd.func3, Tryd.ntmps3
  go_wp2_with (first | (go_at_call 10; refine (hS _).mono ?_; rintro e w1 ⟨rfl, hb⟩) | (go_at_call 11; refine (hI _ hb).mono ?_; rintro e w' ⟨rfl, rfl⟩))
  go_ret
  exact ⟨rfl, hb⟩
theorem code_law (c : Int) (w : World) (h0 : w.cell? ⟨0, 0, none⟩ = some (.string ⟨#[111, 107]⟩)) (h1 : w.cell? ⟨0, 1, none⟩ = some (.string ⟨#[105, 110, 118, 97, 108, 105, 100]⟩)) (h2 : w.cell? ⟨0, 2, none⟩ = some (.string ⟨#[114, 97, 110, 103, 101]⟩)) (h3 : w.cell? ⟨0, 3, none⟩ = some (.string ⟨#[108, 105, 109, 105, 116]⟩)) (h4 : w.cell? ⟨0, 4, none⟩ = some (.string ⟨#[115, 116, 97, 116, 101]⟩)) (h5 : w.cell? ⟨0, 5, none⟩ = some (.string ⟨#[115, 121, 110, 116, 97, 120]⟩)) (h6 : w.cell? ⟨0, 6, none⟩ = some (.string ⟨#[110, 111, 116, 102, 111, 117, 110, 100]⟩)) (h7 : w.cell? ⟨0, 7, none⟩ = some (.string ⟨#[98, 117, 100, 103, 101, 116]⟩)) (h8 : w.cell? ⟨0, 8, none⟩ = some (.string ⟨#[112, 114, 111, 111, 102]⟩)) : Calls Tryd.prog 3 #[.int .i64 c] w fun e w' => e = .returned (.bool true) ∧ Below w.heap.size w w' := by
  by_cases h : 0 ≤ c ∧ c ≤ 8
  · have hc : c = 0 ∨ c = 1 ∨ c = 2 ∨ c = 3 ∨ c = 4 ∨ c = 5 ∨ c = 6 ∨ c = 7 ∨ c = 8 := by omega
    rcases hc with rfl | rfl | rfl | rfl | rfl | rfl | rfl | rfl | rfl
    · exact law_of 0 _ w spec_0 (fun w1 hb => impl_0 w1 ((hb.cell (World.block_lt_of_cell? w _ h0)).trans h0))
    · exact law_of 1 _ w spec_1 (fun w1 hb => impl_1 w1 ((hb.cell (World.block_lt_of_cell? w _ h1)).trans h1))
    · exact law_of 2 _ w spec_2 (fun w1 hb => impl_2 w1 ((hb.cell (World.block_lt_of_cell? w _ h2)).trans h2))
    · exact law_of 3 _ w spec_3 (fun w1 hb => impl_3 w1 ((hb.cell (World.block_lt_of_cell? w _ h3)).trans h3))
    · exact law_of 4 _ w spec_4 (fun w1 hb => impl_4 w1 ((hb.cell (World.block_lt_of_cell? w _ h4)).trans h4))
    · exact law_of 5 _ w spec_5 (fun w1 hb => impl_5 w1 ((hb.cell (World.block_lt_of_cell? w _ h5)).trans h5))
    · exact law_of 6 _ w spec_6 (fun w1 hb => impl_6 w1 ((hb.cell (World.block_lt_of_cell? w _ h6)).trans h6))
    · exact law_of 7 _ w spec_7 (fun w1 hb => impl_7 w1 ((hb.cell (World.block_lt_of_cell? w _ h7)).trans h7))
    · exact law_of 8 _ w spec_8 (fun w1 hb => impl_8 w1 ((hb.cell (World.block_lt_of_cell? w _ h8)).trans h8))
  · have h' : (decide (0 ≤ c) && decide (c ≤ 8)) = false := by
      by_cases a : 0 ≤ c
      · rw [decide_eq_false (show ¬ (c ≤ 8) from fun q => h ⟨a, q⟩), Bool.and_false]
      · rw [decide_eq_false a, Bool.false_and]
    exact law_of c _ w (fun w => spec_out c h' w) (fun w1 _ => impl_out c h' w1)
end Go.Proofs.YtcfjdpegllnhfaaDoor
