/- What stands at a type of the translation is of a printed kind: one lemma for each shape of type (whole number, bool, slice, struct, array), so that the arguments of a law open by their types. No conditions beyond the types'. -/
import Derived.Test.YtpkhneodcndlpaaWArr
import Derived.Deep.Slices
import Derived.OpenShut
import Derived.SizedLaws
namespace Go.Proofs.Ytpkhneodcndlpaa.Read
open Go.RowKit Go.ChangeShapes Go.WideShapes Go.Deep Go.Proofs.YtpkhneodcndlpaaW.PrintWords

/-- What is read at type t is of kind d, and F holds of it. -/
structure Rd {H : Type} (enc : TypeId × Value → H) (P : Program) (t : TypeId) {α : Type} (d : Kd α) (F : α → Prop) : Prop where
  size : P.cellsOf t = d.sz
  reads : ∀ (w : World) (n : Nat) (cs : List Value) (x : DataW H × List MemPlace), DataW.trod enc P w 0 (fun _ => true) true n t cs = some x → ∃ a, d.K w a cs ∧ F a

section
variable {H : Type} {enc : TypeId × Value → H} {P : Program} {t e : TypeId} {α β : Type}

theorem rd_int {k : IntKind} (hu : P.underlying t = some (.int k)) (hc : P.cellsOf t = 1) : Rd enc P t (Kd.int k) (fun a => (Lit.int k a).wf = true) :=
  ⟨hc, fun w n cs x h => by
    obtain ⟨a, rfl, _, hw⟩ := DataW.trod_int hu h
    exact ⟨a, rfl, hw⟩⟩

theorem rd_bool (hu : P.underlying t = some .bool) (hc : P.cellsOf t = 1) : Rd enc P t Kd.bool (fun _ => True) :=
  ⟨hc, fun w n cs x h => by
    obtain ⟨a, rfl, _⟩ := DataW.trod_bool hu h
    exact ⟨a, rfl, trivial⟩⟩

theorem rd_slice {d : Kd α} {F : α → Prop} (hu : P.underlying t = some (.slice e)) (hc : P.cellsOf t = 1) (he : Rd enc P e d F) :
    Rd enc P t (Kd.slice e d) (fun xs => xs.length ≤ maxLen ∧ ∀ x ∈ xs, F x) :=
  ⟨hc, fun w n cs x h => by
    rcases open_slice hu h with ⟨rfl, _⟩ | ⟨a, len, cap, m, n', D, Pl, rfl, _, hl, hm, hmm, _, hx⟩
    · exact ⟨[], ⟨none, 0, rfl, Nat.le_refl _, Kd.C_nil _ _⟩, by simp, by simp⟩
    · have hmm' : m = cap := by rw [hmm]; simp
      subst hmm'
      have key : ∀ i, i < len → ∃ y c, c.length = d.sz ∧ d.K w y c ∧ F y ∧ ∀ j u, c[j]? = some u → w.cell? (a.add (i * d.sz + j)) = some u := by
        intro i hi
        obtain ⟨c, h1, h2⟩ := hx i (by omega)
        obtain ⟨_, h3, h4⟩ := World.cells?_some h1
        obtain ⟨y, hy, hF⟩ := he.reads w _ c _ h2
        refine ⟨y, c, by rw [h3, he.size], hy, hF, fun j u hj => ?_⟩
        have hj' : j < c.length := (List.getElem?_eq_some_iff.1 hj).1
        have h5 := h4 j (by omega)
        rw [← he.size, ← Go.Deep.add_add, h5, hj]
      obtain ⟨xs, hlen, hxs⟩ : ∃ xs : List α, xs.length = len ∧ ∀ i y, xs[i]? = some y → ∃ c, c.length = d.sz ∧ d.K w y c ∧ F y ∧ ∀ j u, c[j]? = some u → w.cell? (a.add (i * d.sz + j)) = some u := by
        clear hx hm hl hmm
        have : ∀ q, q ≤ len → ∃ xs : List α, xs.length = q ∧ ∀ i y, xs[i]? = some y → ∃ c, c.length = d.sz ∧ d.K w y c ∧ F y ∧ ∀ j u, c[j]? = some u → w.cell? (a.add (i * d.sz + j)) = some u := by
          intro q
          induction q with
          | zero => exact fun _ => ⟨[], rfl, fun i y h => by simp at h⟩
          | succ q ih =>
            intro hq
            obtain ⟨xs, h1, h2⟩ := ih (by omega)
            obtain ⟨y, c, h3⟩ := key q (by omega)
            refine ⟨xs ++ [y], by simp [h1], fun i z hz => ?_⟩
            by_cases hi : i < xs.length
            · rw [List.getElem?_append_left hi] at hz; exact h2 i z hz
            · rw [List.getElem?_append_right (by omega)] at hz
              have hi2 : i = q := by
                have h9 := (List.getElem?_eq_some_iff.1 hz).1
                simp only [List.length_singleton] at h9
                omega
              subst hi2
              rw [h1, Nat.sub_self] at hz
              simp at hz
              subst hz
              exact ⟨c, h3⟩
        exact this len (Nat.le_refl _)
      refine ⟨xs, ⟨some a, m, by rw [hlen], by omega, ⟨rfl, by unfold maxLen at hm; omega, fun _ => ⟨a, rfl, fun j p hj => ?_⟩⟩⟩, by omega, fun y hy => ?_⟩
      · obtain ⟨c, h1, h2, _, h3⟩ := hxs j p hj
        exact ⟨c, h1, h2, h3⟩
      · obtain ⟨i, hi⟩ := List.getElem?_of_mem hy
        obtain ⟨c, _, _, h3, _⟩ := hxs i y hi
        exact h3⟩

/-- The fields of a struct, from one cell on. -/
def RdF (enc : TypeId × Value → H) (P : Program) (fs : List Field) (off : Nat) (d : Kd α) (F : α → Prop) : Prop :=
  ∀ (w : World) (n : Nat) (cs : List Value), cs.length = off + d.sz →
    (∀ f ∈ fs, ∃ x, DataW.trod enc P w 0 (fun _ => true) true n f.type ((cs.drop f.offset).take (P.cellsOf f.type)) = some x) → ∃ a, d.K w a (cs.drop off) ∧ F a

theorem rdf_one {f : Field} {off : Nat} {d : Kd α} {F : α → Prop} (ho : f.offset = off) (h : Rd enc P f.type d F) : RdF enc P [f] off d F := by
  intro w n cs hl hf
  obtain ⟨x, hx⟩ := hf f (by simp)
  rw [ho, List.take_of_length_le (by rw [List.length_drop, h.size]; omega)] at hx
  exact h.reads w n _ x hx

theorem rdf_cons {f : Field} {fs : List Field} {off : Nat} {a : Kd α} {b : Kd β} {F : α → Prop} {G : β → Prop} (ho : f.offset = off) (h : Rd enc P f.type a F) (hs : RdF enc P fs (off + a.sz) b G) :
    RdF enc P (f :: fs) off (Kd.pair a b) (fun x => F x.1 ∧ G x.2) := by
  intro w n cs hl hf
  have hl' : cs.length = off + (a.sz + b.sz) := hl
  obtain ⟨x, hx⟩ := hf f (by simp)
  rw [ho, h.size] at hx
  obtain ⟨y, hy, hF⟩ := h.reads w n _ x hx
  obtain ⟨z, hz, hG⟩ := hs w n cs (by omega) (fun g hg => hf g (by simp [hg]))
  refine ⟨(y, z), ⟨_, _, ?_, hy, hz⟩, hF, hG⟩
  rw [← List.drop_drop, List.take_append_drop]

theorem rd_struct {fs : List Field} {d : Kd α} {F : α → Prop} (hu : P.underlying t = some (.struct fs.toArray)) (hc : P.cellsOf t = d.sz) (h : RdF enc P fs 0 d F) : Rd enc P t d F :=
  ⟨hc, fun w n cs x hx => by
    obtain ⟨xs, m, rfl, _, hl, hlen, hf⟩ := DataW.trod_struct hu hx
    have := h w m cs (by rw [hl, hc]; omega) (fun f hfm => by
      obtain ⟨i, hi⟩ := List.getElem?_of_mem hfm
      have h1 := hf i f (by simpa using hi)
      have h2 : i < fs.length := (List.getElem?_eq_some_iff.1 hi).1
      rw [List.getElem?_eq_getElem (by rw [hlen]; simpa using h2)] at h1
      exact ⟨_, h1⟩)
    simpa using this⟩

theorem rd_iso {d : Kd α} {F : α → Prop} {f : β → α} (g : α → β) {G : β → Prop} (hg : ∀ a, f (g a) = a) (hG : ∀ a, F a → G (g a)) (h : Rd enc P t d F) : Rd enc P t (Kd.iso d f) G :=
  ⟨h.size, fun w n cs x hx => by
    obtain ⟨a, hk, hF⟩ := h.reads w n cs x hx
    exact ⟨g a, (show d.K w (f (g a)) cs by rw [hg]; exact hk), hG a hF⟩⟩

theorem rd_array {m : Nat} {d : Kd α} {F : α → Prop} {hs : 0 < d.sz} (hu : P.underlying t = some (.array m e)) (hc : P.cellsOf t = m * d.sz) (he : Rd enc P e d F) :
    Rd enc P t (Kd.arr m d hs) (fun xs => xs.length = m ∧ ∀ x ∈ xs, F x) :=
  ⟨hc, fun w n cs x h => by
    obtain ⟨ys, n', rfl, _, hl, hlen, hel⟩ := DataW.trod_array hu h
    have key : ∀ i, i < m → ∃ y, d.K w y ((cs.drop (i * d.sz)).take d.sz) ∧ F y := by
      intro i hi
      have h1 := hel i hi
      rw [List.getElem?_eq_getElem (by omega), he.size] at h1
      exact he.reads w n' _ _ h1
    obtain ⟨xs, h1, h2⟩ : ∃ xs : List α, xs.length = m ∧ ∀ i y, xs[i]? = some y → d.K w y ((cs.drop (i * d.sz)).take d.sz) ∧ F y := by
      clear hel hl hlen
      have : ∀ q, q ≤ m → ∃ xs : List α, xs.length = q ∧ ∀ i y, xs[i]? = some y → d.K w y ((cs.drop (i * d.sz)).take d.sz) ∧ F y := by
        intro q
        induction q with
        | zero => exact fun _ => ⟨[], rfl, fun i y h => by simp at h⟩
        | succ q ih =>
          intro hq
          obtain ⟨xs, h1, h2⟩ := ih (by omega)
          obtain ⟨y, h3⟩ := key q (by omega)
          refine ⟨xs ++ [y], by simp [h1], fun i z hz => ?_⟩
          by_cases hi : i < xs.length
          · rw [List.getElem?_append_left hi] at hz; exact h2 i z hz
          · rw [List.getElem?_append_right (by omega)] at hz
            have hi2 : i = q := by
              have h9 := (List.getElem?_eq_some_iff.1 hz).1
              simp only [List.length_singleton] at h9
              omega
            subst hi2
            rw [h1, Nat.sub_self] at hz
            simp at hz
            subst hz
            exact h3
      exact this m (Nat.le_refl _)
    refine ⟨xs, ⟨h1, by rw [hl, hc, h1], fun j p hj => (h2 j p hj).1⟩, h1, fun y hy => ?_⟩
    obtain ⟨i, hi⟩ := List.getElem?_of_mem hy
    exact (h2 i y hi).2⟩

/-- A struct or an array by value: its cells. -/
theorem ok_struct {r : Reach} {b0 : Nat} {W : World} {v : Value} {fs : Array Field} (hu : P.underlying t = some (.struct fs)) (h : Value.okWide P W r b0 t v) : ∃ cs, v = .agg cs := by
  obtain ⟨cs, h1, _⟩ := okWide_struct hu h
  exact ⟨cs, h1⟩
theorem ok_array {r : Reach} {b0 : Nat} {W : World} {v : Value} {m : Nat} (hu : P.underlying t = some (.array m e)) (h : Value.okWide P W r b0 t v) : ∃ cs, v = .agg cs := by
  simp only [Value.okWide, hu] at h
  obtain ⟨cs, h1, _⟩ := h
  exact ⟨cs, h1⟩

/-- An argument by value, of several cells. -/
theorem rd_agg {W : World} {d : Kd α} {F : α → Prop} (h : Rd enc P t d F) {cs : Array Value} {x : DataW H} {p : List MemPlace} (hr : DataW.Trod enc P W 0 (fun _ => true) true t (.agg cs) x p) : ∃ a, d.K W a cs.toList ∧ F a := by
  obtain ⟨n, hn⟩ := hr
  exact h.reads W n _ _ (by simpa [Value.cells] using hn)

/-- An argument that is a slice. -/
theorem rd_arg {W : World} {d : Kd α} {F : List α → Prop} (h : Rd enc P t (Kd.slice e d) F) {A : Option Addr} {len cap : Nat} {x : DataW H} {p : List MemPlace} (hr : DataW.Trod enc P W 0 (fun _ => true) true t (.slice A len cap) x p) :
    ∃ xs : List α, len = xs.length ∧ d.C W A xs.length xs ∧ xs.length ≤ cap ∧ F xs := by
  obtain ⟨n, hn⟩ := hr
  obtain ⟨xs, ⟨A', c', h1, h2, h3⟩, hF⟩ := h.reads W n _ _ (by simpa [Value.cells] using hn)
  simp only [List.cons.injEq, Value.slice.injEq, and_true] at h1
  obtain ⟨rfl, rfl, rfl⟩ := h1
  exact ⟨xs, rfl, h3, h2, hF⟩

/-- A slice among the arguments is no longer than its weight allows. -/
theorem sized {W : World} {A : Option Addr} {len cap : Nat} {d : DataW H} {ps : List MemPlace} {ts : List TypeId} {ds : List (DataW H)} {j : Nat}
    (hsz : (DataW.weightsEach P ts ds).all (· ≤ reachBytes) = true) (ht : ts[j]? = some t) (hd : ds[j]? = some d) (hu : P.underlying t = some (.slice e)) {B : Nat} (hB : P.bytesOf e = B)
    (h : DataW.Trod enc P W 0 (fun _ => true) true t (.slice A len cap) d ps) : len * B ≤ 140737488351232 := by
  obtain ⟨fuel, hf⟩ := h
  rcases open_slice hu hf with ⟨hcs, _⟩ | ⟨a, l, c, m, n, D, Pl, hcs, _, hl, _, _, hx, _⟩
  · simp [Value.cells] at hcs
    obtain ⟨rfl, rfl, rfl⟩ := hcs
    simp
  · simp [Value.cells] at hcs
    obtain ⟨rfl, rfl, rfl⟩ := hcs
    obtain ⟨hx, _⟩ := Prod.mk.inj hx
    subst hx
    have z := sized_slice hsz ht hd hu
    rw [hB] at z
    refine Nat.le_trans (Nat.mul_le_mul_right _ ?_) z
    simp

theorem arr_lit {xs : List α} {m : Nat} (h : xs.length = m) (z : α) : xs = (List.range m).map fun i => xs.getD i z := by
  apply List.ext_getElem?
  intro i
  by_cases hi : i < m
  · rw [List.getElem?_map, List.getElem?_range hi, List.getElem?_eq_getElem (by omega)]
    simp [List.getD, List.getElem?_eq_getElem (show i < xs.length by omega)]
  · rw [List.getElem?_eq_none (by omega), List.getElem?_eq_none (by simp; omega)]
end
end Go.Proofs.Ytpkhneodcndlpaa.Read
