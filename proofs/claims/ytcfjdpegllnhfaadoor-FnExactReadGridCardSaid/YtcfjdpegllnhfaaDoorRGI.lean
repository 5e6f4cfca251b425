/- impl.ReadGrid walked: the grid that its lines set, where its text is the text read. Conditions: the text is no longer than 1048576 bytes; the world holds the library's variables (WF, TZ). -/
import Derived.Shelf.Strings.Cut
import Derived.Laws.Tables
import Derived.Test.YtcfjdpegllnhfaaDoorRGP
namespace Go.Proofs
open Go.Shelf Go.RowKit
def Tryd.lays145_ren : Go.Shelf.Ren := ⟨fun | 145 => 56 | 220 => 73 | 219 => 92 | 217 => 109 | 225 => 110 | 224 => 111 | 267 => 112 | 266 => 121 | 314 => 122 | n => n, fun | 9 => 9 | 4 => 4 | 59 => 89 | 3 => 3 | 5 => 5 | 46 => 97 | 146 => 125 | 51 => 124 | n => n, fun | 1 => 3 | n => n⟩
theorem Tryd.lays145 : Go.Proofs.Lays.n145 Tryd.prog Tryd.lays145_ren := {
  mixed := by kernel_rfl
  f145 := Tryd.func56.trans (congrArg some (by kernel_rfl))
  f217 := Tryd.func109.trans (congrArg some (by kernel_rfl))
  f219 := Tryd.func92.trans (congrArg some (by kernel_rfl))
  f220 := Tryd.func73.trans (congrArg some (by kernel_rfl))
  f224 := Tryd.func111.trans (congrArg some (by kernel_rfl))
  f225 := Tryd.func110.trans (congrArg some (by kernel_rfl))
  f266 := Tryd.func121.trans (congrArg some (by kernel_rfl))
  f267 := Tryd.func112.trans (congrArg some (by kernel_rfl))
  f314 := Tryd.func122.trans (congrArg some (by kernel_rfl))
  t3 := Tryd.underlying3
  a3 := Tryd.isAgg3
  z3 := Tryd.sizeOf3
  v3 := Tryd.zeroValue3
  t4 := Tryd.underlying4
  a4 := Tryd.isAgg4
  z4 := Tryd.sizeOf4
  v4 := Tryd.zeroValue4
  t5 := Tryd.underlying5
  a5 := Tryd.isAgg5
  z5 := Tryd.sizeOf5
  v5 := Tryd.zeroValue5
  t9 := Tryd.underlying9
  a9 := Tryd.isAgg9
  z9 := Tryd.sizeOf9
  v9 := Tryd.zeroValue9
  t46 := Tryd.underlying97
  a46 := Tryd.isAgg97
  z46 := Tryd.sizeOf97
  v46 := Tryd.zeroValue97
  t51 := Tryd.underlying124
  a51 := Tryd.isAgg124
  z51 := Tryd.sizeOf124
  v51 := Tryd.zeroValue124
  t59 := Tryd.underlying89
  a59 := Tryd.isAgg89
  z59 := Tryd.sizeOf89
  v59 := Tryd.zeroValue89
  t146 := Tryd.underlying125
  a146 := Tryd.isAgg125
  z146 := Tryd.sizeOf125
  v146 := Tryd.zeroValue125
  g1 := by kernel_rfl }
theorem Tryd.strings_Cut (s sep : ByteArray) (m : Int) (w : World) (hs : s.size < 4294967281) (hm : w.cell? ⟨3, 0, none⟩ = some (.int .i64 m)) :
    Calls Tryd.prog 56 #[.string s, .string sep] w fun e w' => e = .returned (.tuple #[.string ⟨(Lib.cut s.data.toList sep.data.toList).1.toArray⟩, .string ⟨(Lib.cut s.data.toList sep.data.toList).2.1.toArray⟩, .bool (Lib.cut s.data.toList sep.data.toList).2.2]) ∧ ∃ n, w' = w.drewN n := Any.strings_Cut Tryd.lays145 s sep m w hs hm

end Go.Proofs
namespace Go.Proofs.YtcfjdpegllnhfaaDoor.RGI
open Go.RowKit Go.Proofs.YtcfjdpegllnhfaaDoor.FFnExactReadGrid Go.Proofs.YtcfjdpegllnhfaaDoorW.PrintWords Go.Proofs.YtcfjdpegllnhfaaDoorW.PrintLast Go.Proofs.YtcfjdpegllnhfaaDoorW.PrintMore Go.Proofs.YtcfjdpegllnhfaaDoor.Arr Go.Proofs.YtcfjdpegllnhfaaDoor.UX Go.Proofs.YtcfjdpegllnhfaaDoor.GT Go.Proofs.YtcfjdpegllnhfaaDoor.RGP
set_option linter.unusedVariables false
set_option linter.unusedSimpArgs false
theorem sp_len (c : UInt8) : ∀ (l : List UInt8) (x : List UInt8), x ∈ sp c l → x.length ≤ l.length
  | [], x, h => by
    have : x = [] := by simpa [sp] using h
    rw [this]; exact Nat.le_refl _
  | b :: l, x, h => by
    obtain ⟨y, ys, e⟩ := sp_ne c l
    have ih := sp_len c l
    rw [List.length_cons]
    by_cases hb : b = c
    · subst hb
      rw [sp_eq] at h
      rcases List.mem_cons.1 h with rfl | h
      · simp
      · have := ih x h; omega
    · rw [sp_cons c b l hb e] at h
      rw [e] at ih
      rcases List.mem_cons.1 h with rfl | h
      · have := ih y (by simp); rw [List.length_cons]; omega
      · have := ih x (by simp [h]); omega
theorem sp_count (c : UInt8) : ∀ l : List UInt8, (sp c l).length ≤ l.length + 1
  | [] => by simp [sp]
  | b :: l => by
    obtain ⟨y, ys, e⟩ := sp_ne c l
    have ih := sp_count c l
    rw [List.length_cons]
    by_cases hb : b = c
    · subst hb
      rw [sp_eq, List.length_cons]
      omega
    · rw [sp_cons c b l hb e]
      rw [e] at ih
      exact Nat.le_trans ih (by omega)
/-- The memory while a text is read: the result, the grid, the lines. -/
structure RS (w W : World) (ad : Addr) (L : List ByteArray) (gB : Nat) (cur : Array Value) : Prop where
  res : ∃ z, z.size = 64 ∧ W.heap[w.heap.size]? = some (.cells z 40 (0, 0))
  g : W.heap[gB]? = some (.cells cur 40 (0, 0))
  ls : ∀ i : Nat, i < L.length → W.cell? (ad.add i) = some (.string (rdOf ByteArray.empty L i))
  ne : ad.block ≠ gB
  lo : w.heap.size < gB
  bel : Below w.heap.size w W
theorem RS.on {w W W' : World} {ad : Addr} {L : List ByteArray} {gB : Nat} {cur : Array Value} (h : RS w W ad L gB cur) (hb : Below W.heap.size W W') : RS w W' ad L gB cur :=
  ⟨h.res.imp fun z q => ⟨q.1, blk_below q.2 hb⟩, blk_below h.g hb, fun i hi => cell_on hb (h.ls i hi), h.ne, h.lo, below_step h.bel hb⟩
theorem add_block (ad : Addr) (i : Nat) : (ad.add i).block = ad.block := by unfold Addr.add; split <;> rfl
theorem RS.set {w W : World} {ad : Addr} {L : List ByteArray} {gB : Nat} {cur : Array Value} (h : RS w W ad L gB cur) (n : Nat) (v : Value) : RS w (W.setCell ⟨gB, n, none⟩ v) ad L gB (cur.setIfInBounds n v) :=
  ⟨h.res.imp fun z q => ⟨q.1, blk_far q.2 (by simpa using Nat.ne_of_lt h.lo) _⟩, blk_set h.g _ _, fun i hi => (World.cell?_setCell_far _ _ _ _ (fun e => h.ne (by simpa [add_block] using e.symm))).trans (h.ls i hi), h.ne, h.lo, below_set h.bel (Nat.le_of_lt h.lo)⟩
theorem arr_set (G : List Int) (n : Nat) (v : Int) : (arr G).setIfInBounds n (.int .u64 v) = arr (G.set n v) := by
  simp [encs, List.map_set]
theorem eq_or (s t : ByteArray) : (s.toList == t.toList) = true ∨ (s.toList == t.toList) = false := by cases (s.toList == t.toList) <;> simp
theorem place_or (n : Int) : (∃ m : Nat, m < 64 ∧ n = (m : Int)) ∨ ¬ (0 ≤ n ∧ n < 64) := by
  by_cases h : 0 ≤ n ∧ n < 64
  · exact Or.inl ⟨n.toNat, by omega, by omega⟩
  · exact Or.inr h
theorem isPlace_w (n : Int) (w : World) : Calls Tryd.prog 34 #[.int .i64 n, .int .i64 64] w fun e w' => e = .returned (.bool (decide (0 ≤ n ∧ n < 64))) ∧ Below w.heap.size w w' := by
  have e : impl_isPlace.f n 64 = some (decide (0 ≤ n ∧ n < 64)) := by
    unfold impl_isPlace.f impl_inRange.f
    rw [show wrap64 (64 - 1) = 63 by unfold wrap64; omega]
    by_cases h : 0 ≤ n
    · rw [if_pos h, Option.bind_some]
      congr 1
      simp only [h, true_and, decide_eq_decide]
      omega
    · rw [if_neg h, Option.bind_some]
      congr 1
      simp [h]
  exact (impl_isPlace.calls n 64 _ w e).mono fun e w' ⟨h1, m, h2⟩ => ⟨h1, by rw [h2]; exact pw_below_drewN (Below.refl _ _) _⟩
theorem cut_len (s : List UInt8) : (Lib.cut s [32]).1.length ≤ s.length ∧ (Lib.cut s [32]).2.1.length ≤ s.length := by
  unfold Lib.cut
  split
  · exact ⟨by rw [List.length_take]; omega, by rw [List.length_drop]; omega⟩
  · exact ⟨Nat.le_refl _, by simp⟩
/-- What strings.Cut gives at a blank. -/
theorem cut_w (s : ByteArray) (hs : s.size ≤ 1048576) (w : World) (hw : WF w) : Calls Tryd.prog 56 #[.string s, .string ⟨#[32]⟩] w fun e w' => ∃ (p q : ByteArray) (f : Bool), p.size ≤ 1048576 ∧ q.size ≤ 1048576 ∧ Lib.cut s.data.toList [32] = (p.data.toList, q.data.toList, f) ∧ e = .returned (.tuple #[.string p, .string q, .bool f]) ∧ Below w.heap.size w w' := by
  obtain ⟨m, hm⟩ := hw.max
  refine (Tryd.strings_Cut s ⟨#[32]⟩ m w (by omega) hm).mono fun e w' ⟨h1, n, h2⟩ => ?_
  obtain ⟨l1, l2⟩ := cut_len s.data.toList
  rw [sz_d] at l1 l2
  refine ⟨_, _, _, ?_, ?_, ?_, h1, by rw [h2]; exact pw_below_drewN (Below.refl _ _) _⟩
  · rw [sz_l]; exact Nat.le_trans l1 hs
  · rw [sz_l]; exact Nat.le_trans l2 hs
  · rfl
theorem istep_no {G : List Int} {s p q : List UInt8} {f : Bool} (h : Lib.cut s [32] = (p, q, f)) (hn : ¬ (f = true ∧ (numRes p).2 = true ∧ 0 ≤ (numRes p).1 ∧ (numRes p).1 < 64)) : istep G s = G := by
  unfold istep
  rw [h]
  exact if_neg hn
theorem istep_yes {G : List Int} {s p q : List UInt8} {f : Bool} (h : Lib.cut s [32] = (p, q, f)) (hn : f = true ∧ (numRes p).2 = true ∧ 0 ≤ (numRes p).1 ∧ (numRes p).1 < 64) : istep G s = G.set (numRes p).1.toNat (((ux 0 q).getD 0 : Nat) : Int) := by
  unfold istep
  rw [h]
  exact if_pos hn
section
variable {P : Program} {ops : Array Oper} {rest : List Oper} {o : Oper} {a : Act} {Q : Exit → Act → World → Prop}
/-- A whole array is stored where the very cells lie. -/
theorem ev_same {W : World} (hgd : o.guard = none) {t ty : TypeId} {p : Tmp} {x : Operand} (ho : o.op = .store ty (.tmp p) x) (hN : o.dst = none) {g : Nat} {cs : Array Value} (hp : a.eval (.tmp p) = .pointer (some ⟨g, 0, none⟩)) (hx : a.eval x = .agg cs)
    (hr : W.heap[g]? = some (.cells cs t (0, 0))) (hi : (P.info? ty).map (·.size) = some cs.size) (h1 : cs.all (·.oneCell') = true) (h : wpList P ops Q rest a W) : wpList P ops Q (o :: rest) a W :=
  ev_store hgd ho hN hp hx hr hi rfl h1 (by rw [setRow_self _ _ _ _ _ hr]; exact h)
end
theorem built40 : Tryd.prog.built 40 [] = some (arr Z64) := by kernel_rfl
theorem run_build40 (W : World) : (Instr.build 40 #[]).run Tryd.prog W = .ok (.agg (arr Z64)) W := run_build W 40 #[] _ built40
section
variable {ops : Array Oper} {rest : List Oper} {o : Oper} {a : Act} {Q : Exit → Act → World → Prop}
/-- An empty grid is built. -/
theorem ev_build {W : World} (hgd : o.guard = none) (ho : o.op = .build 40 #[]) (h : wpList Tryd.prog ops Q rest (a.put o.dst (.agg (arr Z64))) W) : wpList Tryd.prog ops Q (o :: rest) a W := by
  refine Kd.event_run hgd (v := .agg (arr Z64)) (w1 := W) ?_ h
  rw [execOp, ho]
  simp only [List.map_toArray, List.map_nil, Sem.run_bind, Sem.run_pure, run_build40, Result.andThen]
end
theorem results_cell_tmp {P : Program} {fn : Func} {p q : Tmp} {ty : TypeId} (h : fn.results = #[.cell p ty, .tmp q]) (tmps : Array Value) (w : World) (g : Nat) (t : TypeId) (cs : Array Value) (fr : Nat × Nat) (d : TypeDesc) (v : Value)
    (hp : tmps.getD p undef = .pointer (some ⟨g, 0, none⟩)) (hq : tmps.getD q undef = v) (hg : w.heap[g]? = some (.cells cs t fr))
    (hu : P.underlying ty = some d) (hd : (match d with | .struct _ | .array _ _ => true | _ => false) = true) (hi : (P.info? ty).map (·.size) = some cs.size) :
    (results fn tmps).run P w = .ok (.tuple #[.agg cs, v]) w := by
  have hp' : tmps[p]?.getD undef = .pointer (some ⟨g, 0, none⟩) := by simpa using hp
  have hq' : tmps[q]?.getD undef = v := by simpa using hq
  simp [results, h, hp', hq', asAddr, run_loadVar_row w g t ty cs fr d hg hu hd hi]
theorem all64 : (arr Z64).all (·.oneCell') = true := all_one (n := 64) (encs_size List.length_replicate) (encs_all List.length_replicate)
theorem blk_two (w : World) (z : Array Value) : ((w.alloc (.cells z 40)).alloc (.cells z 40)).heap[w.heap.size + 1]? = some (.cells z 40 (0, 0)) := by simpa using blk_new (w.alloc (.cells z 40)) (.cells z 40)
/-- What strings.Split gives at a line's end. -/
theorem split_w (t : ByteArray) (ht : t.size ≤ 1048576) (L : List ByteArray) (hL : L = Lib.splitB ⟨#[10]⟩ 0 (Lib.countB t ⟨#[10]⟩) t) (w : World) (hw : WF w) : Calls Tryd.prog 50 #[.string t, .string ⟨#[10]⟩] w fun e w' => ∃ ad : Addr, ad.block = w.heap.size ∧ e = .returned (.slice (some ad) L.length L.length) ∧ (∀ i : Nat, i < L.length → w'.cell? (ad.add i) = some (.string (rdOf ByteArray.empty L i))) ∧ Below w.heap.size w w' := by
  obtain ⟨m, hm⟩ := hw.max
  refine (Tryd.strings_Split t ⟨#[10]⟩ m w (by omega) hm (by decide)).mono fun e w' ⟨h1, h2⟩ => ?_
  have hl : L.length = Lib.countB t ⟨#[10]⟩ + 1 := by rw [hL]; exact Lib.splitB_all ⟨#[10]⟩ (by decide) 0 (Lib.countB t ⟨#[10]⟩) t rfl
  rw [← hL] at h2
  refine ⟨⟨w.heap.size, 0, none⟩, rfl, by rw [hl]; exact h1, fun i hi => ?_, by rw [h2]; exact below_alloc (Below.refl _ _) _⟩
  rw [h2, add_off, Nat.zero_add, blk_cell (blk_new w _)]
  unfold rdOf
  simp [List.getD_eq_getElem?_getD, List.getElem?_eq_getElem hi]
theorem RS.start {w w1 : World} {ad : Addr} {L : List ByteArray} {z : Array Value} (hz : z.size = 64) (had : ad.block = ((w.alloc (.cells z 40)).alloc (.cells z 40)).heap.size) (h : ∀ i : Nat, i < L.length → w1.cell? (ad.add i) = some (.string (rdOf ByteArray.empty L i))) (hb : Below ((w.alloc (.cells z 40)).alloc (.cells z 40)).heap.size ((w.alloc (.cells z 40)).alloc (.cells z 40)) w1) : RS w w1 ad L (w.heap.size + 1) z :=
  ⟨⟨z, hz, blk_below (blk_alloc (blk_new w _) _) hb⟩, blk_below (blk_two w z) hb, h, by rw [had]; simp, by omega, below_step (below_alloc (below_alloc (Below.refl _ _) _) _) hb⟩
set_option maxHeartbeats 8000000 in
set_option maxRecDepth 100000 in
theorem implReadGrid (t : ByteArray) (ht : t.size ≤ 1048576) (w : World) (hw : WF w) (htz : TZ w) :
    Calls Tryd.prog 31 #[.string t] w fun e w' => ∃ (G : List Int) (c : Int), e = .returned (.tuple #[.agg (arr G), .int .i64 c]) ∧ Below w.heap.size w w' ∧ Grid ((sp 10 t.data.toList).foldl istep Z64) ∧ ((gpre ((sp 10 t.data.toList).foldl istep Z64) 64 = t.data.toList ∧ G = (sp 10 t.data.toList).foldl istep Z64 ∧ c = 0) ∨ (gpre ((sp 10 t.data.toList).foldl istep Z64) 64 ≠ t.data.toList ∧ G = Z64 ∧ c = 5)) := by
  have hsp := splitB_sp t 10
  obtain ⟨L, hL⟩ : ∃ L, L = Lib.splitB ⟨#[10]⟩ 0 (Lib.countB t ⟨#[10]⟩) t := ⟨_, rfl⟩
  rw [← hL] at hsp
  have hne : 0 < L.length := by
    obtain ⟨x, xs, e⟩ := sp_ne 10 t.data.toList
    have := congrArg List.length hsp
    rw [e, List.length_map, List.length_cons] at this
    omega
  have hlb : L.length ≤ 1048577 := by
    have h1 := sp_count 10 t.data.toList
    rw [← hsp, List.length_map, sz_d] at h1
    omega
  have hsz : ∀ i : Nat, i < L.length → (rdOf ByteArray.empty L i).size ≤ 1048576 ∧ (L.map (·.data.toList)).drop i = (rdOf ByteArray.empty L i).data.toList :: (L.map (·.data.toList)).drop (i + 1) := by
    intro i hi
    have e : rdOf ByteArray.empty L i = L[i] := by unfold rdOf; rw [Int.toNat_natCast, List.getD_eq_getElem?_getD, List.getElem?_eq_getElem hi]; rfl
    rw [e]
    constructor
    · have := sp_len 10 t.data.toList L[i].data.toList (by rw [← hsp]; exact List.mem_map_of_mem (List.getElem_mem hi))
      rw [sz_d, sz_d] at this
      omega
    · rw [List.drop_eq_getElem_cons (by rw [List.length_map]; exact hi)]
      simp
  rw [← hsp]
  obtain ⟨F, hF⟩ : ∃ F, F = (L.map (·.data.toList)).foldl istep Z64 := ⟨_, rfl⟩
  rw [← hF]
  have HW := Aside0.mk hw
  have HTZ := Aside0.mk htz
  have HSF := Aside0.mk (fun W hW => split_w t ht L hL W hW)
  have HN := Aside0.mk hne
  have HSZ := Aside0.mk hsz
  have HF := Aside0.mk hF
  have HLB := Aside0.mk hlb
  have HB := Aside0.mk (Below.refl w.heap.size w)
  clear hw htz hne hsz hF hsp ht hL hlb
  go_enter Tryd.func31, Tryd.ntmps31
  go_wp2_with (first | ((with_reducible refine gate_dst (N := 12) rfl ?_); refine ev_build rfl rfl ?_) | ((with_reducible refine gate_store (t := 40) (p := 4) rfl ?_); refine ev_same rfl rfl rfl rfl rfl (blk_two w _) (by kernel_rfl) all64 ?_) | (go_at_call 50; refine (HSF.out _ (wf_on HW.out (below_alloc (below_alloc HB.out _) _))).mono ?_; rintro e w1 ⟨ad, had, rfl, hl, hb⟩; have HST := Aside0.mk (RS.start (by rfl) had hl hb); clear hl hb HB had))
  go_loopg [16] L.length (fun kq v16 w' => ∃ (i : Nat) (G : List Int), v16 = .int .i64 (i : Int) ∧ Aside0 (i + kq = L.length) ∧ Aside0 (RS w w' ad L (w.heap.size + 1) (arr G)) ∧ Aside0 (Grid G ∧ F = ((L.map (·.data.toList)).drop i).foldl istep G))
  case atStart => exact ⟨0, Z64, rfl, ⟨by omega⟩, HST, ⟨grid_z, HF.out⟩⟩
  case round =>
    clear HST
    obtain ⟨i, G, rfl, HI, HST, HG⟩ := hrel
    by_cases c2 : i < L.length
    · cases gk with
      | zero => exact absurd HI.out (by omega)
      | succ k1 =>
        have c2b0 : decide ((i : Int) < (L.length : Int)) = true := decide_eq_true (by omega)
        have c2b1 : decide (i < L.length) = true := decide_eq_true c2
        have hx := HST.out.ls i c2
        obtain ⟨s1, s2⟩ := HSZ.out i c2
        have HD := Aside0.mk s2
        obtain ⟨line, hline⟩ : ∃ b, b = rdOf ByteArray.empty L i := ⟨_, rfl⟩
        rw [← hline] at hx s1
        have HLN := Aside0.mk hline
        have HS1 := Aside0.mk s1
        have HC2 := Aside0.mk c2
        have q1 : (i < L.length) = True := eq_true c2
        have q2 : ((i : Int) < (L.length : Int)) = True := eq_true (by omega)
        clear hline s1 s2 c2
        go_wp2_with (first | (go_at_call 56; refine (cut_w line HS1.out _ (wf_on HW.out HST.out.bel)).mono ?_; rintro e w2 ⟨p, q, f, hp, hq, hcut, rfl, hb⟩; have HST2 := Aside0.mk (HST.out.on hb); have HPQ := Aside0.mk (And.intro hp (And.intro hq hcut)); clear HST hb hp hq hcut hx) | (go_at_call 51; refine (number_w p HPQ.out.1 _ (wf_on HW.out HST2.out.bel)).mono ?_; obtain ⟨n, ok, hnr⟩ : ∃ n ok, numRes p.data.toList = (n, ok) := ⟨_, _, rfl⟩; rw [hnr]; rintro e w3 ⟨rfl, hb⟩; have HST := Aside0.mk (HST2.out.on hb); have HNR := Aside0.mk hnr; clear HST2 hb hnr; have HP := Aside0.mk (isPlace_w n)) | (go_at_call 34; refine (HP.out _).mono ?_; rcases place_or n with ⟨m, hm, hmn⟩ | hno; all_goals (first | (subst hmn; rw [decide_eq_true (by omega)]; rintro e w4 ⟨rfl, hb⟩; have HST4 := Aside0.mk (HST.out.on hb); clear HST hb; have r1 : ((m : Int) < 64) = True := eq_true (by omega)) | (rw [decide_eq_false hno]; have HNO := Aside0.mk hno; clear hno; rintro e w4 ⟨rfl, hb⟩; have HST4 := Aside0.mk (HST.out.on hb); clear HST hb; have HST := HST4; clear HST4))) | (go_at_call 57; refine (unhex_w q HPQ.out.2.1 _ (wf_on HW.out HST4.out.bel)).mono ?_; rintro e w5 ⟨⟨v, hv, hv2, rfl⟩, hb⟩; have HST5 := Aside0.mk (HST4.out.on hb); have HV := Aside0.mk (And.intro hv hv2); clear HST4 hb hv hv2; obtain ⟨o, ho⟩ := size_getElem? (arr G) m (by rw [encs_size HG.out.1.1]; exact hm); have hcB : w5.cell? ⟨w.heap.size + 1, m, none⟩ = some o := (by rw [blk_cell HST5.out.g, ho]); have hfB := blk_frozen HST5.out.g m; clear ho))
        · rename_i hf hok
          go_roundg k1
          case measure => omega
          case rel =>
            refine ⟨i + 1, G.set m (v : Int), ?_, ⟨by have := HI.out; omega⟩, ⟨?_⟩, ⟨grid_set HG.out.1 m v HV.out.2, ?_⟩⟩
            · have e : wrap64 ((i : Int) + 1) = ((i + 1 : Nat) : Int) := by have := HLB.out; have := HI.out; unfold wrap64; omega
              rw [← e]
            · rw [← arr_set]
              exact HST5.out.set m _
            · have e := HG.out.2
              rw [HD.out, List.foldl_cons, ← HLN.out, istep_yes HPQ.out.2.2 (by rw [HNR.out]; exact ⟨hf, hok, by simp, by simp; omega⟩), HNR.out] at e
              rw [e, HV.out.1]
              rfl
        · rename_i hf hok
          go_roundg k1
          case measure => omega
          case rel =>
            refine ⟨i + 1, G, ?_, ⟨by have := HI.out; omega⟩, HST, ⟨HG.out.1, ?_⟩⟩
            · have e : wrap64 ((i : Int) + 1) = ((i + 1 : Nat) : Int) := by have := HLB.out; have := HI.out; unfold wrap64; omega
              rw [← e]
            · have e := HG.out.2
              rw [HD.out, List.foldl_cons, ← HLN.out, istep_no HPQ.out.2.2 (fun h => HNO.out (by rw [HNR.out] at h; exact h.2.2))] at e
              exact e
        · rename_i hf hok
          go_roundg k1
          case measure => omega
          case rel =>
            refine ⟨i + 1, G, ?_, ⟨by have := HI.out; omega⟩, HST, ⟨HG.out.1, ?_⟩⟩
            · have e : wrap64 ((i : Int) + 1) = ((i + 1 : Nat) : Int) := by have := HLB.out; have := HI.out; unfold wrap64; omega
              rw [← e]
            · have e := HG.out.2
              rw [HD.out, List.foldl_cons, ← HLN.out, istep_no HPQ.out.2.2 (fun h => hok (by rw [HNR.out] at h; exact h.2.1))] at e
              exact e
        · rename_i hf
          go_roundg k1
          case measure => omega
          case rel =>
            refine ⟨i + 1, G, ?_, ⟨by have := HI.out; omega⟩, HST, ⟨HG.out.1, ?_⟩⟩
            · have e : wrap64 ((i : Int) + 1) = ((i + 1 : Nat) : Int) := by have := HLB.out; have := HI.out; unfold wrap64; omega
              rw [← e]
            · have e := HG.out.2
              rw [HD.out, List.foldl_cons, ← HLN.out, istep_no HPQ.out.2.2 (fun h => hf h.1)] at e
              exact e
    · have e : i = L.length := by have := HI.out; omega
      have hfin : F = G := by
        have h := HG.out.2
        rw [e, List.drop_of_length_le (by rw [List.length_map]; exact Nat.le_refl _)] at h
        exact h
      have c2b0 : decide ((i : Int) < (L.length : Int)) = false := decide_eq_false (by omega)
      have c2b1 : decide (i < L.length) = false := decide_eq_false c2
      have HFIN := Aside0.mk hfin
      clear c2 e hfin
      go_wp2_with (first | ((with_reducible refine gate_dst (N := 44) rfl ?_); refine ev_load rfl rfl rfl HST.out.g Tryd.underlying40 (by rw [encs_size HG.out.1.1]; kernel_rfl) ?_) | (go_at_call 22; refine (implGridText G HG.out.1 _ ⟨(wf_on HW.out HST.out.bel).tab, cell_on HST.out.bel HTZ.out⟩).mono ?_; obtain ⟨s, hs⟩ : ∃ s : ByteArray, s = ⟨(gpre G 64).toArray⟩ := ⟨_, rfl⟩; rw [← hs]; rintro e w6 ⟨rfl, hb⟩; have HST6 := Aside0.mk (HST.out.on hb); have HS := Aside0.mk hs; clear HST hb hs; rcases eq_or s t with hst | hst) | ((with_reducible refine gate_dst (N := 48) rfl ?_); refine ev_build rfl rfl ?_) | ((with_reducible refine gate_dst (N := 49) rfl ?_); refine ev_load rfl rfl rfl HST6.out.g Tryd.underlying40 (by rw [encs_size HG.out.1.1]; kernel_rfl) ?_) | ((with_reducible refine gate_store (t := 40) (p := 2) rfl ?_); first | refine ev_store rfl rfl rfl rfl (cs' := arr Z64) rfl HST6.out.res.choose_spec.2 (by kernel_rfl) HST6.out.res.choose_spec.1 all64 ?_ | refine ev_store rfl rfl rfl rfl (cs' := arr G) rfl HST6.out.res.choose_spec.2 (by rw [encs_size HG.out.1.1]; kernel_rfl) (by rw [encs_size HG.out.1.1]; exact HST6.out.res.choose_spec.1) (all_one (encs_size HG.out.1.1) (encs_all HG.out.1.1)) ?_))
      · refine bodyPost_ret (results_cell_tmp rfl _ _ w.heap.size 40 (arr G) (0, 0) _ (.int .i64 0) rfl rfl (setRow_heap _ _ _ _ _ _ HST6.out.res.choose_spec.2) Tryd.underlying40 rfl (by rw [encs_size HG.out.1.1]; kernel_rfl)) rfl ?_
        have e : s = t := by
          have e1 := beq_iff_eq.1 hst
          rw [Lib.toList_data, Lib.toList_data] at e1
          exact ByteArray.ext (Array.toList_inj.1 e1)
        have et : gpre F 64 = t.data.toList := by rw [HFIN.out, ← e, HS.out]
        exact ⟨G, 0, rfl, below_setRow HST6.out.bel (Nat.le_refl _) _, by rw [HFIN.out]; exact HG.out.1, Or.inl ⟨et, HFIN.out.symm, rfl⟩⟩
      · refine bodyPost_ret (results_cell_tmp rfl _ _ w.heap.size 40 (arr Z64) (0, 0) _ (.int .i64 5) rfl rfl (setRow_heap _ _ _ _ _ _ HST6.out.res.choose_spec.2) Tryd.underlying40 rfl (by kernel_rfl)) rfl ?_
        have et : gpre F 64 ≠ t.data.toList := by
          intro h
          rw [HFIN.out] at h
          have e1 := beq_eq_false_iff_ne.1 hst
          rw [Lib.toList_data, Lib.toList_data, HS.out] at e1
          exact e1 h
        exact ⟨Z64, 5, rfl, below_setRow HST6.out.bel (Nat.le_refl _) _, by rw [HFIN.out]; exact HG.out.1, Or.inr ⟨et, rfl, rfl⟩⟩
end Go.Proofs.YtcfjdpegllnhfaaDoor.RGI
