/- spec.ReadGrid walked: the grid that the lines give, or none. Condition: the text is no longer than 1048576 bytes. -/
import Derived.Test.YtcfjdpegllnhfaaDoorRGI
namespace Go.Proofs.YtcfjdpegllnhfaaDoor.RGS
open Go.RowKit Go.Proofs.YtcfjdpegllnhfaaDoor.FFnExactReadGrid Go.Proofs.YtcfjdpegllnhfaaDoorW.PrintWords Go.Proofs.YtcfjdpegllnhfaaDoorW.PrintLast Go.Proofs.YtcfjdpegllnhfaaDoorW.PrintMore Go.Proofs.YtcfjdpegllnhfaaDoor.Arr Go.Proofs.YtcfjdpegllnhfaaDoor.UX Go.Proofs.YtcfjdpegllnhfaaDoor.GT Go.Proofs.YtcfjdpegllnhfaaDoor.RGP Go.Proofs.YtcfjdpegllnhfaaDoor.RGI
set_option linter.unusedVariables false
set_option linter.unusedSimpArgs false
theorem number_s (p : ByteArray) (w : World) : Calls Tryd.prog 49 #[.string p] w fun e w' => ∃ (n : Int) (ok : Bool), e = .returned (.tuple #[.int .i64 n, .bool ok]) ∧ (ok = true ↔ good p.data.toList) ∧ (good p.data.toList → n = ((spell 0 p.data.toList : Nat) : Int)) ∧ Below w.heap.size w w' := by
  obtain ⟨h1, h2⟩ := l01Number_t p 30 (Nat.le_refl _)
  by_cases h : good p.data.toList
  · exact (spec_l01Number.calls 30 p _ _ w (h1 h)).mono fun e w' ⟨he, m, hw⟩ => ⟨_, _, he, ⟨fun _ => h, fun _ => rfl⟩, fun _ => rfl, by rw [hw]; exact pw_below_drewN (Below.refl _ _) _⟩
  · exact (spec_l01Number.calls 30 p _ _ w (h2 h)).mono fun e w' ⟨he, m, hw⟩ => ⟨_, _, he, ⟨fun q => absurd q (by simp), fun q => absurd q h⟩, fun q => absurd q h, by rw [hw]; exact pw_below_drewN (Below.refl _ _) _⟩
theorem hex_s (q : ByteArray) (hq : q.size ≤ 1048576) (w : World) : Calls Tryd.prog 55 #[.string q] w fun e w' => ∃ (v : Nat) (b : Bool), e = .returned (.tuple #[.int .u64 (v : Int), .bool b]) ∧ (b = true ↔ good16 q.data.toList) ∧ (good16 q.data.toList → v = hsp 0 q.data.toList) ∧ v < 18446744073709551616 ∧ Below w.heap.size w w' := by
  obtain ⟨v, b, h1, h2, h3, h4⟩ := l05Hex_t q hq (2 * q.size + 2) (Nat.le_refl _)
  exact (spec_l05Hex.calls _ q _ _ w h1).mono fun e w' ⟨he, m, hw⟩ => ⟨v, b, he, h3, h4, h2, by rw [hw]; exact pw_below_drewN (Below.refl _ _) _⟩
theorem split_s (t : ByteArray) (ht : t.size ≤ 1048576) (c : UInt8) (w : World) : Calls Tryd.prog 48 #[.string t, .int .u8 (c.toNat : Int)] w fun e w' => ∃ (ad : Addr) (cap : Nat) (L : List ByteArray), e = .returned (.slice (some ad) L.length cap) ∧ L.map (·.data.toList) = sp c t.data.toList ∧ (∀ i : Nat, i < L.length → w'.cell? (ad.add i) = some (.string (rdOf ByteArray.empty L i))) ∧ 0 < L.length ∧ ad.block < w'.heap.size ∧ Below w.heap.size w w' := by
  obtain ⟨L, h1, h2⟩ := l01Split_t t ht c (t.size + 1) (by omega)
  refine (spec_l01Split.calls _ t _ L w h1).mono fun e w' ⟨v, he, hR, hb⟩ => ?_
  have hne : 0 < L.length := by
    obtain ⟨x, xs, e⟩ := sp_ne c t.data.toList
    have := congrArg List.length h2
    rw [e, List.length_map, List.length_cons] at this
    omega
  obtain ⟨ad, cap, rfl⟩ := Kd.R_slice1 hR hne
  have hcell : ∀ i : Nat, i < L.length → w'.cell? (ad.add i) = some (.string (rdOf ByteArray.empty L i)) := by
    intro i hi
    obtain ⟨ad', e1, e2⟩ := Kd.at_string (Kd.R_reads' hR).2.2 (i : Int) (by omega) (by omega)
    cases e1
    exact e2
  refine ⟨ad, cap, L, he, h2, hcell, hne, ?_, hb⟩
  have := World.block_lt_of_cell? w' _ (hcell 0 hne)
  rwa [RGI.add_block] at this
theorem rd_size (c : UInt8) (t : ByteArray) (ht : t.size ≤ 1048576) (L : List ByteArray) (h : L.map (·.data.toList) = sp c t.data.toList) (i : Nat) (hi : i < L.length) : (rdOf ByteArray.empty L (i : Int)).size ≤ 1048576 ∧ (L.map (·.data.toList)).drop i = (rdOf ByteArray.empty L (i : Int)).data.toList :: (L.map (·.data.toList)).drop (i + 1) := by
  have e : rdOf ByteArray.empty L (i : Int) = L[i] := by unfold rdOf; rw [Int.toNat_natCast, List.getD_eq_getElem?_getD, List.getElem?_eq_getElem hi]; rfl
  rw [e]
  constructor
  · have := sp_len c t.data.toList L[i].data.toList (by rw [← h]; exact List.mem_map_of_mem (List.getElem_mem hi))
    rw [sz_d, sz_d] at this
    omega
  · rw [List.drop_eq_getElem_cons (by rw [List.length_map]; exact hi)]
    simp
/-- What the first word list gives: two words, or no line. -/
theorem words_or (l : List UInt8) (W : List ByteArray) (h : W.map (·.data.toList) = sp 32 l) : (∃ p q, W = [p, q] ∧ sp 32 l = [p.data.toList, q.data.toList]) ∨ (W.length ≠ 2 ∧ ∀ x b, ¬ Line l x b) := by
  by_cases h2 : W.length = 2
  · match W, h2, h with
    | [p, q], _, h => exact Or.inl ⟨p, q, rfl, h.symm⟩
  · refine Or.inr ⟨h2, fun x b hl => h2 ?_⟩
    rw [line_sp hl] at h
    have := congrArg List.length h
    simpa using this
theorem line_only {l : List UInt8} {p q : List UInt8} (h : sp 32 l = [p, q]) {x b : Nat} (hl : Line l x b) : good p ∧ good16 q ∧ x = spell 0 p ∧ b = hsp 0 q := by
  have e := (line_sp hl).symm.trans h
  obtain ⟨e1, e2⟩ := List.cons.inj e
  obtain ⟨e2, _⟩ := List.cons.inj e2
  have g1 : good p := by rw [← e1]; exact dec_good x hl.2.1
  have g2 : good16 q := by rw [← e2]; exact hex16_good b
  have := line_uniq hl (line_words h g1 g2)
  exact ⟨g1, g2, this⟩
theorem RS.start2 {w w1 : World} {ad : Addr} {L : List ByteArray} {z z' : Array Value} (hz : z.size = 64) (hl : ad.block < w1.heap.size) (h : ∀ i : Nat, i < L.length → w1.cell? (ad.add i) = some (.string (rdOf ByteArray.empty L i))) (hb : Below (w.alloc (.cells z 40)).heap.size (w.alloc (.cells z 40)) w1) : RS w (w1.alloc (.cells z' 40)) ad L w1.heap.size z' :=
  ⟨⟨z, hz, blk_alloc (blk_below (blk_new w _) hb) _⟩, blk_new w1 _, fun i hi => cell_on (below_alloc (Below.refl _ _) _) (h i hi), by omega, by have := hb.size; simp at this; omega, below_alloc (below_step (below_alloc (Below.refl _ _) _) hb) _⟩
theorem empty_or (b : ByteArray) : (b.toList.isEmpty = true ∧ b.data.toList = []) ∨ (b.toList.isEmpty = false ∧ b.data.toList ≠ []) := by
  cases h : b.toList.isEmpty
  · refine Or.inr ⟨rfl, fun q => ?_⟩
    rw [← Lib.toList_data] at q
    rw [q] at h
    cases h
  · refine Or.inl ⟨rfl, ?_⟩
    rw [List.isEmpty_iff] at h
    rw [← Lib.toList_data, h]
theorem lines_last (L : List ByteArray) (m : Nat) (hm : L.length = m + 1) : L.map (·.data.toList) = (L.map (·.data.toList)).take m ++ [(rdOf ByteArray.empty L (m : Int)).data.toList] := by
  have hi : m < L.length := by omega
  have e : rdOf ByteArray.empty L (m : Int) = L[m] := by unfold rdOf; rw [Int.toNat_natCast, List.getD_eq_getElem?_getD, List.getElem?_eq_getElem hi]; rfl
  have hi2 : m < (L.map (·.data.toList)).length := by rw [List.length_map]; exact hi
  have := List.take_succ_eq_append_getElem hi2
  rw [List.take_of_length_le (by rw [List.length_map]; omega)] at this
  rw [e]
  conv => lhs; rw [this]
  simp
theorem take_drop_line {L : List ByteArray} {m i : Nat} (hm : L.length = m + 1) (hi : i < m) (h : (L.map (·.data.toList)).drop i = (rdOf ByteArray.empty L (i : Int)).data.toList :: (L.map (·.data.toList)).drop (i + 1)) : ((L.map (·.data.toList)).take m).drop i = (rdOf ByteArray.empty L (i : Int)).data.toList :: ((L.map (·.data.toList)).take m).drop (i + 1) := by
  rw [List.drop_take, List.drop_take, h, show m - i = (m - (i + 1)) + 1 by omega, List.take_succ_cons]
theorem acc_iff {t : List UInt8} {L : List ByteArray} {m : Nat} (hL : L.map (·.data.toList) = sp 10 t) (hm : L.length = m + 1) (R : List Int) : Acc t R ↔ ((rdOf ByteArray.empty L (m : Int)).data.toList = [] ∧ sfp ((L.map (·.data.toList)).take m) Z64 (-1) R) := by
  have e := lines_last L m hm
  rw [hL] at e
  constructor
  · rintro ⟨M, h1, h2⟩
    rw [hL]
    rw [e] at h1
    obtain ⟨e1, e2⟩ := List.append_inj' h1 rfl
    rw [e1]
    exact ⟨(List.cons.inj e2).1, h2⟩
  · rintro ⟨h1, h2⟩
    rw [h1] at e
    rw [hL] at h2
    exact ⟨_, e, h2⟩
theorem six_or (ok b : Bool) (n last : Int) (v : Nat) (hn : ok = true → 0 ≤ n) :
    (ok = true ∧ b = true ∧ (n ≤ last) = False ∧ (64 ≤ n) = False ∧ ((v : Int) == 0) = false ∧ ∃ x : Nat, n = (x : Int) ∧ last < (x : Int) ∧ x < 64 ∧ v ≠ 0)
    ∨ (ok = false ∧ ¬ (ok = true ∧ b = true ∧ last < n ∧ n < 64 ∧ v ≠ 0))
    ∨ (ok = true ∧ b = false ∧ ¬ (ok = true ∧ b = true ∧ last < n ∧ n < 64 ∧ v ≠ 0))
    ∨ (ok = true ∧ b = true ∧ (n ≤ last) = True ∧ ¬ (ok = true ∧ b = true ∧ last < n ∧ n < 64 ∧ v ≠ 0))
    ∨ (ok = true ∧ b = true ∧ (n ≤ last) = False ∧ (64 ≤ n) = True ∧ ¬ (ok = true ∧ b = true ∧ last < n ∧ n < 64 ∧ v ≠ 0))
    ∨ (ok = true ∧ b = true ∧ (n ≤ last) = False ∧ (64 ≤ n) = False ∧ ((v : Int) == 0) = true ∧ ¬ (ok = true ∧ b = true ∧ last < n ∧ n < 64 ∧ v ≠ 0)) := by
  cases ok
  · simp
  · cases b
    · simp
    · have h0 := hn rfl
      by_cases h1 : n ≤ last
      · have e1 : ¬ last < n := by omega
        simp [h1, e1]
      · by_cases h2 : 64 ≤ n
        · have e2 : ¬ n < 64 := by omega
          simp [h1, h2, e2]
        · by_cases h3 : v = 0
          · simp [h1, h2, h3]
          · refine Or.inl ⟨rfl, rfl, eq_false h1, eq_false h2, by simp [h3], n.toNat, by omega, by omega, by omega, h3⟩
set_option maxHeartbeats 8000000 in
set_option maxRecDepth 100000 in
theorem specReadGrid (t : ByteArray) (ht : t.size ≤ 1048576) (w : World) :
    Calls Tryd.prog 30 #[.string t] w fun e w' => ∃ (G : List Int) (c : Int), e = .returned (.tuple #[.agg (arr G), .int .i64 c]) ∧ Below w.heap.size w w' ∧ ((Acc t.data.toList G ∧ Grid G ∧ c = 0) ∨ ((¬ ∃ R, Acc t.data.toList R) ∧ G = Z64 ∧ c = 5)) := by
  have HT := Aside0.mk ht
  have HB := Aside0.mk (Below.refl w.heap.size w)
  clear ht
  go_enter Tryd.func30, Tryd.ntmps30
  go_wp2_with (first | (go_at_call 48; refine (split_s t HT.out 10 _).mono ?_; rintro e w1 ⟨ad, cap, L, rfl, hL, hl, hne, hlt, hb⟩; obtain ⟨m, hm⟩ : ∃ m, L.length = m + 1 := ⟨L.length - 1, by omega⟩; have hlb : L.length ≤ 1048577 := (by have h1 := sp_count 10 t.data.toList; rw [← hL, List.length_map, sz_d] at h1; have := HT.out; omega); have hj : wrap64 ((L.length : Int) - 1) = (m : Int) := (by unfold wrap64; omega); have q1 : ((m : Int) < (L.length : Int)) = True := eq_true (by omega); have q2 : (m < L.length) = True := eq_true (by omega); have hx := hl m (by omega); obtain ⟨lst, hlst⟩ : ∃ b, b = rdOf ByteArray.empty L m := ⟨_, rfl⟩; rw [← hlst] at hx; have HLL := Aside0.mk hL; have HLL2 := Aside0.mk hl; have HLT := Aside0.mk hlt; have HBB := Aside0.mk hb; have HM := Aside0.mk hm; have HLB := Aside0.mk hlb; have HLST := Aside0.mk hlst; have HB1 := Aside0.mk (below_step (below_alloc HB.out _) hb); have HRES := Aside0.mk (blk_below (blk_new w _) hb); clear hL hl hne hlt hb hm hlb hlst HB; rcases empty_or lst with ⟨he, he2⟩ | ⟨he, he2⟩) | ((with_reducible first | refine gate_dst (N := 24) rfl ?_ | refine gate_dst (N := 25) rfl ?_); refine ev_build rfl rfl ?_) | ((with_reducible refine gate_store (t := 40) (p := 2) rfl ?_); refine ev_store rfl rfl rfl rfl (cs' := arr Z64) rfl HRES.out (by kernel_rfl) (by rfl) all64 ?_) | ((with_reducible refine gate_store (t := 40) (p := 6) rfl ?_); refine ev_same rfl rfl rfl rfl rfl (blk_new w1 _) (by kernel_rfl) all64 ?_))
  · have HAC := Aside0.mk (fun R => (acc_iff HLL.out HM.out R).trans (and_iff_right (by rw [← HLST.out]; exact he2)))
    have HST := Aside0.mk (RS.start2 (L := L) (z' := arr Z64) (by rfl) HLT.out HLL2.out HBB.out)
    clear he he2 HB1 HRES HBB HLT hx HLST
    go_loopg [7, 8] m (fun kq v7 v8 w' => ∃ (i : Nat) (last : Int) (G : List Int), v7 = .int .i64 last ∧ v8 = .int .i64 (i : Int) ∧ Aside0 (i + kq = m) ∧ Aside0 (RS w w' ad L w1.heap.size (arr G)) ∧ Aside0 (Grid G ∧ (∀ j : Nat, last < (j : Int) → G.getD j 0 = 0)) ∧ Aside0 (∀ R, Acc t.data.toList R ↔ sfp (((L.map (·.data.toList)).take m).drop i) G last R))
    case atStart => exact ⟨0, -1, Z64, rfl, rfl, ⟨by omega⟩, HST, ⟨grid_z, fun i _ => z_getD i⟩, HAC⟩
    case round =>
      clear HST HAC
      obtain ⟨i, last, G, rfl, rfl, HI, HST, HG, HAC⟩ := hrel
      by_cases c2 : i < m
      · cases gk with
        | zero => exact absurd HI.out (by omega)
        | succ k1 =>
          have c2b0 : decide ((i : Int) < (m : Int)) = true := decide_eq_true (by omega)
          have c2b1 : decide (i < m) = true := decide_eq_true c2
          have hi : i < L.length := by rw [HM.out]; omega
          have hx := HST.out.ls i hi
          obtain ⟨s1, s2⟩ := rd_size 10 t HT.out L HLL.out i hi
          have s3 := take_drop_line HM.out c2 s2
          have w1' : wrap64 ((i : Int) + 1) = ((i + 1 : Nat) : Int) := by have := HLB.out; unfold wrap64; omega
          obtain ⟨line, hline⟩ : ∃ b, b = rdOf ByteArray.empty L i := ⟨_, rfl⟩
          rw [← hline] at hx s1 s3
          have HS1 := Aside0.mk s1
          have HS3 := Aside0.mk s3
          have HW1 := Aside0.mk w1'
          have q3 : (i < L.length) = True := eq_true hi
          have q4 : ((i : Int) < (L.length : Int)) = True := eq_true (by omega)
          clear hline s1 s2 s3 hi w1' c2
          go_wp2_with (first | (go_at_call 48; refine (split_s line HS1.out 32 _).mono ?_; rintro e w2 ⟨ad2, cap2, W, rfl, hW, hl2, hne2, hlt2, hb⟩; have HST2 := Aside0.mk (HST.out.on hb); clear HST hb hx hne2 hlt2; rcases words_or line.data.toList W hW with ⟨p, q, rfl, hpq⟩ | ⟨hlen, hno⟩; all_goals (first | (have hx0 : w2.cell? ad2 = some (.string p) := hl2 0 (by simp); have hx1 : w2.cell? ⟨ad2.block, ad2.off + 1, none⟩ = some (.string q) := hl2 1 (by simp); have HSQ := Aside0.mk (rd_size 32 line HS1.out [p, q] hW 1 (by simp)).1; have HX1 := Aside0.mk hx1; have HPQ := Aside0.mk hpq; clear hl2 hW hpq hx1) | (have HNO := Aside0.mk hno; clear hl2 hW hno))) | (go_at_call 49; refine (number_s p _).mono ?_; rintro e w3 ⟨n, ok, rfl, hn1, hn2, hb⟩; have HST3 := Aside0.mk (HST2.out.on hb); have hx1 := cell_on hb HX1.out; have HN := Aside0.mk (And.intro hn1 hn2); clear HST2 hb hx0 hn1 hn2) | (go_at_call 55; refine (hex_s q HSQ.out _).mono ?_; rintro e w4 ⟨v, b, rfl, hv1, hv2, hv3, hb⟩; have HST4 := Aside0.mk (HST3.out.on hb); have HV := Aside0.mk (And.intro hv1 (And.intro hv2 hv3)); clear HST3 hb hx1 hv1 hv2 hv3; rcases six_or ok b n last v (fun h => by rw [HN.out.2 (HN.out.1.1 h)]; omega) with ⟨rfl, rfl, f1, f2, f3, x, rfl, hx1, hx2, hx3⟩ | ⟨rfl, hbad⟩ | ⟨rfl, rfl, hbad⟩ | ⟨rfl, rfl, f1, hbad⟩ | ⟨rfl, rfl, f1, f2, hbad⟩ | ⟨rfl, rfl, f1, f2, f3, hbad⟩; all_goals (first | (have HBAD := Aside0.mk hbad; clear hbad) | (obtain ⟨o, ho⟩ := size_getElem? (arr G) x (by rw [encs_size HG.out.1.1]; exact hx2); have hcB : w4.cell? ⟨w1.heap.size, x, none⟩ = some o := (by rw [blk_cell HST4.out.g, ho]); have hfB := blk_frozen HST4.out.g x; have r1 : ((x : Int) < 64) = True := eq_true (by omega); have HX := Aside0.mk (And.intro hx1 (And.intro hx2 hx3)); clear ho hx1 hx2 hx3))) | ((with_reducible first | refine gate_dst (N := 40) rfl ?_ | refine gate_dst (N := 74) rfl ?_); refine ev_build rfl rfl ?_) | ((with_reducible refine gate_store (t := 40) (p := 2) rfl ?_); first | refine ev_store rfl rfl rfl rfl (cs' := arr Z64) rfl HST2.out.res.choose_spec.2 (by kernel_rfl) HST2.out.res.choose_spec.1 all64 ?_ | refine ev_store rfl rfl rfl rfl (cs' := arr Z64) rfl HST4.out.res.choose_spec.2 (by kernel_rfl) HST4.out.res.choose_spec.1 all64 ?_))
          · go_roundg k1
            case measure => omega
            case rel =>
              have g1 := HN.out.1.1 (by first | trivial | rfl)
              have g2 := HV.out.1.1 (by first | trivial | rfl)
              have e1 : x = spell 0 p.data.toList := by have := HN.out.2 g1; omega
              have e2 := HV.out.2.1 g2
              have hl := line_words HPQ.out g1 g2
              rw [← e1, ← e2] at hl
              refine ⟨i + 1, (x : Int), G.set x (v : Int), rfl, ?_, ⟨by have := HI.out; omega⟩, ⟨?_⟩, ⟨grid_set HG.out.1 x v HV.out.2.2, ?_⟩, ⟨fun R => ?_⟩⟩
              · rw [← HW1.out]
              · rw [← arr_set]
                exact HST4.out.set x _
              · intro j hj
                rw [List.getD_eq_getElem?_getD, List.getElem?_set_ne (by omega), ← List.getD_eq_getElem?_getD]
                exact HG.out.2 j (by have := HX.out.1; omega)
              · refine (HAC.out R).trans ?_
                rw [HS3.out]
                exact sfp_cons hl HX.out.1 HX.out.2.1 HX.out.2.2
          · refine bodyPost_ret (RGI.results_cell_tmp rfl _ _ w.heap.size 40 (arr Z64) (0, 0) _ (.int .i64 5) rfl rfl (setRow_heap _ _ _ _ _ _ HST4.out.res.choose_spec.2) Tryd.underlying40 rfl (by kernel_rfl)) rfl ?_
            refine ⟨Z64, 5, rfl, below_setRow HST4.out.bel (Nat.le_refl _) _, Or.inr ⟨?_, rfl, rfl⟩⟩
            rintro ⟨R, hR⟩
            have h := (HAC.out R).1 hR
            rw [HS3.out] at h
            refine sfp_not (fun x b' hl h1 h2 => ?_) h
            obtain ⟨g1, g2, e1, e2⟩ := line_only HPQ.out hl
            have q1 := HN.out.2 g1
            have q2 := HV.out.2.1 g2
            refine Decidable.byContradiction fun h0 => HBAD.out ⟨HN.out.1.2 g1, HV.out.1.2 g2, by omega, by omega, by omega⟩
          · refine bodyPost_ret (RGI.results_cell_tmp rfl _ _ w.heap.size 40 (arr Z64) (0, 0) _ (.int .i64 5) rfl rfl (setRow_heap _ _ _ _ _ _ HST4.out.res.choose_spec.2) Tryd.underlying40 rfl (by kernel_rfl)) rfl ?_
            refine ⟨Z64, 5, rfl, below_setRow HST4.out.bel (Nat.le_refl _) _, Or.inr ⟨?_, rfl, rfl⟩⟩
            rintro ⟨R, hR⟩
            have h := (HAC.out R).1 hR
            rw [HS3.out] at h
            refine sfp_not (fun x b' hl h1 h2 => ?_) h
            obtain ⟨g1, g2, e1, e2⟩ := line_only HPQ.out hl
            have q1 := HN.out.2 g1
            have q2 := HV.out.2.1 g2
            refine Decidable.byContradiction fun h0 => HBAD.out ⟨HN.out.1.2 g1, HV.out.1.2 g2, by omega, by omega, by omega⟩
          · refine bodyPost_ret (RGI.results_cell_tmp rfl _ _ w.heap.size 40 (arr Z64) (0, 0) _ (.int .i64 5) rfl rfl (setRow_heap _ _ _ _ _ _ HST4.out.res.choose_spec.2) Tryd.underlying40 rfl (by kernel_rfl)) rfl ?_
            refine ⟨Z64, 5, rfl, below_setRow HST4.out.bel (Nat.le_refl _) _, Or.inr ⟨?_, rfl, rfl⟩⟩
            rintro ⟨R, hR⟩
            have h := (HAC.out R).1 hR
            rw [HS3.out] at h
            refine sfp_not (fun x b' hl h1 h2 => ?_) h
            obtain ⟨g1, g2, e1, e2⟩ := line_only HPQ.out hl
            have q1 := HN.out.2 g1
            have q2 := HV.out.2.1 g2
            refine Decidable.byContradiction fun h0 => HBAD.out ⟨HN.out.1.2 g1, HV.out.1.2 g2, by omega, by omega, by omega⟩
          · refine bodyPost_ret (RGI.results_cell_tmp rfl _ _ w.heap.size 40 (arr Z64) (0, 0) _ (.int .i64 5) rfl rfl (setRow_heap _ _ _ _ _ _ HST4.out.res.choose_spec.2) Tryd.underlying40 rfl (by kernel_rfl)) rfl ?_
            refine ⟨Z64, 5, rfl, below_setRow HST4.out.bel (Nat.le_refl _) _, Or.inr ⟨?_, rfl, rfl⟩⟩
            rintro ⟨R, hR⟩
            have h := (HAC.out R).1 hR
            rw [HS3.out] at h
            refine sfp_not (fun x b' hl h1 h2 => ?_) h
            obtain ⟨g1, g2, e1, e2⟩ := line_only HPQ.out hl
            have q1 := HN.out.2 g1
            have q2 := HV.out.2.1 g2
            refine Decidable.byContradiction fun h0 => HBAD.out ⟨HN.out.1.2 g1, HV.out.1.2 g2, by omega, by omega, by omega⟩
          · refine bodyPost_ret (RGI.results_cell_tmp rfl _ _ w.heap.size 40 (arr Z64) (0, 0) _ (.int .i64 5) rfl rfl (setRow_heap _ _ _ _ _ _ HST4.out.res.choose_spec.2) Tryd.underlying40 rfl (by kernel_rfl)) rfl ?_
            refine ⟨Z64, 5, rfl, below_setRow HST4.out.bel (Nat.le_refl _) _, Or.inr ⟨?_, rfl, rfl⟩⟩
            rintro ⟨R, hR⟩
            have h := (HAC.out R).1 hR
            rw [HS3.out] at h
            refine sfp_not (fun x b' hl h1 h2 => ?_) h
            obtain ⟨g1, g2, e1, e2⟩ := line_only HPQ.out hl
            have q1 := HN.out.2 g1
            have q2 := HV.out.2.1 g2
            refine Decidable.byContradiction fun h0 => HBAD.out ⟨HN.out.1.2 g1, HV.out.1.2 g2, by omega, by omega, by omega⟩
          · refine bodyPost_ret (RGI.results_cell_tmp rfl _ _ w.heap.size 40 (arr Z64) (0, 0) _ (.int .i64 5) rfl rfl (setRow_heap _ _ _ _ _ _ HST2.out.res.choose_spec.2) Tryd.underlying40 rfl (by kernel_rfl)) rfl ?_
            refine ⟨Z64, 5, rfl, below_setRow HST2.out.bel (Nat.le_refl _) _, Or.inr ⟨?_, rfl, rfl⟩⟩
            rintro ⟨R, hR⟩
            have h := (HAC.out R).1 hR
            rw [HS3.out] at h
            exact sfp_not (fun x b' hl _ _ => absurd hl (HNO.out x b')) h
      · have e : i = m := by have := HI.out; omega
        have c2b0 : decide ((i : Int) < (m : Int)) = false := decide_eq_false (by omega)
        have c2b1 : decide (i < m) = false := decide_eq_false c2
        have HE := Aside0.mk e
        clear c2 e
        go_wp2_with (first | ((with_reducible refine gate_dst (N := 79) rfl ?_); refine ev_load rfl rfl rfl HST.out.g Tryd.underlying40 (by rw [encs_size HG.out.1.1]; kernel_rfl) ?_) | ((with_reducible refine gate_store (t := 40) (p := 2) rfl ?_); refine ev_store rfl rfl rfl rfl (cs' := arr G) rfl HST.out.res.choose_spec.2 (by rw [encs_size HG.out.1.1]; kernel_rfl) (by rw [encs_size HG.out.1.1]; exact HST.out.res.choose_spec.1) (all_one (encs_size HG.out.1.1) (encs_all HG.out.1.1)) ?_))
        refine bodyPost_ret (RGI.results_cell_tmp rfl _ _ w.heap.size 40 (arr G) (0, 0) _ (.int .i64 0) rfl rfl (setRow_heap _ _ _ _ _ _ HST.out.res.choose_spec.2) Tryd.underlying40 rfl (by rw [encs_size HG.out.1.1]; kernel_rfl)) rfl ?_
        refine ⟨G, 0, rfl, below_setRow HST.out.bel (Nat.le_refl _) _, Or.inl ⟨(HAC.out G).2 ?_, HG.out.1, rfl⟩⟩
        rw [List.drop_of_length_le (by rw [List.length_take, HE.out]; omega)]
        rfl
  · refine bodyPost_ret (RGI.results_cell_tmp rfl _ _ w.heap.size 40 (arr Z64) (0, 0) _ (.int .i64 5) rfl rfl (setRow_heap _ _ _ _ _ _ HRES.out) Tryd.underlying40 rfl (by kernel_rfl)) rfl ?_
    refine ⟨Z64, 5, rfl, below_setRow HB1.out (Nat.le_refl _) _, Or.inr ⟨?_, rfl, rfl⟩⟩
    rintro ⟨R, hR⟩
    have h := ((acc_iff HLL.out HM.out R).1 hR).1
    rw [← HLST.out] at h
    exact he2 h
end Go.Proofs.YtcfjdpegllnhfaaDoor.RGS
