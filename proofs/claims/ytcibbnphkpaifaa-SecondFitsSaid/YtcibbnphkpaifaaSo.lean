/- Lists of fractions, and of waters, of a call's own. -/
import Derived.Test.YtcibbnphkpaifaaSn
namespace Go.Proofs.Ytcibbnphkpaifaa
open Go.RowKit
set_option linter.unusedVariables false
set_option maxRecDepth 100000
/-- A fraction as it lies somewhere; a water, too. -/
structure Ze where
  t : Int
  l : Int
  top : Bool
  h : Rat
  p : Option Addr
  c : Nat
  q : Option Addr
  d : Nat
def Ze.agg (z : Ze) : Value := .agg #[.bool (rneg z.h), .slice z.p (rn z.h).length z.c, .slice z.q (rd z.h).length z.d]
def Ze.c3 (z : Ze) : List Value := [.bool (rneg z.h), .slice z.p (rn z.h).length z.c, .slice z.q (rd z.h).length z.d]
def Ze.c6 (z : Ze) : List Value := [.int .i64 z.t, .int .i64 z.l, .bool z.top, .bool (rneg z.h), .slice z.p (rn z.h).length z.c, .slice z.q (rd z.h).length z.d]
def Ze.blk (z : Ze) (k : Nat) : Prop := (Value.slice z.p (rn z.h).length z.c).ownBlock = some k ∨ (Value.slice z.q (rd z.h).length z.d).ownBlock = some k
/-- All are of one's own, and apart. -/
def ZOK (w : World) (base : Nat) (Z : List Ze) : Prop := (∀ z ∈ Z, RO w base z.agg z.h ∧ Fits z.h) ∧ Z.Pairwise (fun a b => ∀ k, a.blk k → ¬ b.blk k)
def OFs (w : World) (base : Nat) (v : Value) (Z : List Ze) : Prop := w.ownsRow base 32 3 v Z.length (Z.flatMap Ze.c3) ∧ ZOK w base Z
def OWs (w : World) (base : Nat) (v : Value) (Z : List Ze) : Prop := w.ownsRow base 34 6 v Z.length (Z.flatMap Ze.c6) ∧ ZOK w base Z
theorem ZOK.nil (w : World) (base : Nat) : ZOK w base [] := ⟨fun z h => (by cases h), List.Pairwise.nil⟩
theorem OFs.nil (w : World) (base : Nat) : OFs w base (.slice none 0 0) [] := ⟨⟨rfl, .inl ⟨rfl, rfl⟩⟩, ZOK.nil w base⟩
theorem OWs.nil (w : World) (base : Nat) : OWs w base (.slice none 0 0) [] := ⟨⟨rfl, .inl ⟨rfl, rfl⟩⟩, ZOK.nil w base⟩
theorem ZOK.below {w w' : World} {base : Nat} {Z : List Ze} (h : ZOK w base Z) (hb : Below w.heap.size w w') : ZOK w' base Z := ⟨fun z hz => ⟨(h.1 z hz).1.below hb, (h.1 z hz).2⟩, h.2⟩
theorem OFs.below {w w' : World} {base : Nat} {v : Value} {Z : List Ze} (h : OFs w base v Z) (hb : Below w.heap.size w w') : OFs w' base v Z := ⟨own_below h.1 hb, h.2.below hb⟩
theorem OWs.below {w w' : World} {base : Nat} {v : Value} {Z : List Ze} (h : OWs w base v Z) (hb : Below w.heap.size w w') : OWs w' base v Z := ⟨own_below h.1 hb, h.2.below hb⟩
theorem ZOK.mono {w : World} {base base' : Nat} {Z : List Ze} (h : ZOK w base Z) (hb : base' ≤ base) : ZOK w base' Z := ⟨fun z hz => ⟨(h.1 z hz).1.mono hb, (h.1 z hz).2⟩, h.2⟩
theorem OFs.mono {w : World} {base base' : Nat} {v : Value} {Z : List Ze} (h : OFs w base v Z) (hb : base' ≤ base) : OFs w base' v Z := ⟨ownsRow_base_a h.1 hb, h.2.mono hb⟩
theorem OWs.mono {w : World} {base base' : Nat} {v : Value} {Z : List Ze} (h : OWs w base v Z) (hb : base' ≤ base) : OWs w base' v Z := ⟨ownsRow_base_a h.1 hb, h.2.mono hb⟩
theorem Ze.ro {w : World} {base : Nat} {z : Ze} (h : RO w base z.agg z.h) : WO w base (.slice z.p (rn z.h).length z.c) (rn z.h) ∧ WO w base (.slice z.q (rd z.h).length z.d) (rd z.h) ∧ ∀ k, (Value.slice z.p (rn z.h).length z.c).ownBlock = some k → (Value.slice z.q (rd z.h).length z.d).ownBlock ≠ some k := by
  obtain ⟨p, c, q, d, e, h1, h2, h3⟩ := h
  unfold Ze.agg at e
  simp only [Value.agg.injEq, Array.mk.injEq, List.cons.injEq, Value.slice.injEq, true_and, and_true] at e
  obtain ⟨⟨rfl, rfl⟩, rfl, rfl⟩ := e
  exact ⟨h1, h2, h3⟩
/-- Where a fraction's words lie. -/
theorem RO.range {w : World} {base : Nat} {z : Ze} (h : RO w base z.agg z.h) {k : Nat} (hk : z.blk k) : base ≤ k ∧ k < w.heap.size := by
  obtain ⟨h1, h2, _⟩ := Ze.ro h
  rcases hk with hk | hk
  · exact World.ownsRow.lt h1 k hk
  · exact World.ownsRow.lt h2 k hk
theorem ZOK.snoc {w w' : World} {base : Nat} {Z : List Ze} {z : Ze} (h : ZOK w base Z) (hw : ∀ y ∈ Z, RO w' base y.agg y.h) (hz : RO w' w.heap.size z.agg z.h) (hb : base ≤ w.heap.size) (hf : Fits z.h) : ZOK w' base (Z ++ [z]) := by
  refine ⟨fun y hy => ?_, ?_⟩
  · rcases List.mem_append.1 hy with hy | hy
    · exact ⟨hw y hy, (h.1 y hy).2⟩
    · obtain rfl := List.mem_singleton.1 hy
      exact ⟨hz.mono hb, hf⟩
  · refine List.pairwise_append.2 ⟨h.2, List.pairwise_singleton _ _, fun a ha b hb' k h1 h2 => ?_⟩
    obtain rfl := List.mem_singleton.1 hb'
    have r1 := (h.1 a ha).1.range h1
    have r2 := hz.range h2
    omega
/-- A row may change that is none of theirs. -/
theorem RO.kept {w w' : World} {base : Nat} {v : Value} {x : Rat} {row : Option Nat} (h : RO w base v x) (hg : w.grownBy w' row) (hT : ∀ g, row = some g → ∀ cs T, w.heap[g]? = some (.cells cs T) → T ≠ 88) (hl : ∀ g, row = some g → ∃ cs T, w.heap[g]? = some (.cells cs T)) : RO w' base v x := by
  obtain ⟨p, c, q, d, e, h1, h2, h3⟩ := h
  have k : ∀ {v : Value} {S : List Nat}, WO w base v S → WO w' base v S := fun {v S} h => by
    refine h.kept hg ?_
    cases row with
    | none => cases v.ownBlock <;> simp
    | some g =>
      obtain ⟨cs, T, hc⟩ := hl g rfl
      exact .inr (row_type h hc (hT g rfl cs T hc))
  exact ⟨p, c, q, d, e, k h1, k h2, h3⟩
theorem flat_get {α : Type} (f : α → List Value) (n : Nat) (hf : ∀ x, (f x).length = n) : ∀ (L : List α) (i j : Nat) (hi : i < L.length), j < n → (L.flatMap f)[i * n + j]? = (f L[i])[j]?
  | x :: L, 0, j, _, hj => by
    rw [List.flatMap_cons, Nat.zero_mul, Nat.zero_add, List.getElem?_append_left (by rw [hf]; exact hj)]; rfl
  | x :: L, i + 1, j, hi, hj => by
    rw [List.flatMap_cons, List.getElem?_append_right (by rw [hf, Nat.add_mul]; omega), hf]
    have : (i + 1) * n + j - n = i * n + j := by rw [Nat.add_mul]; omega
    rw [this]
    exact flat_get f n hf L i j (by simpa using hi) hj
theorem ze3 (z : Ze) : (Ze.c3 z).length = 3 := rfl
theorem ze6 (z : Ze) : (Ze.c6 z).length = 6 := rfl
/-- A water as data. -/
def Ze.wt (z : Ze) : Wt := ⟨z.t, z.l, z.top, rneg z.h, rn z.h, rd z.h⟩
theorem Ze.wt_h (z : Ze) : z.wt.h = z.h := ratG_rat z.h
/-- Waters of one's own can be read. -/
theorem OWs.wsl {w : World} {base : Nat} {p : Option Addr} {c : Nat} {Z : List Ze} (h : OWs w base (.slice p Z.length c) Z) : WSl w p (Z.map Ze.wt) := by
  rcases Nat.eq_zero_or_pos Z.length with h0 | h0
  · have : Z = [] := List.eq_nil_of_length_eq_zero h0
    subst this
    rcases h.1.2 with ⟨e, _⟩ | ⟨g, cap, cur, e, hb, hg, _⟩
    · cases e; exact .inl ⟨rfl, rfl⟩
    · cases e; exact .inr ⟨g, 0, rfl, lt_of_heap hg, fun i hi => absurd hi (by simp)⟩
  · obtain ⟨g, rfl, hbg, hg, hc⟩ := row_cells h.1 h0
    refine .inr ⟨g, 0, rfl, hg, fun i hi => ?_⟩
    have hi' : i < Z.length := by simpa using hi
    have hz := h.2.1 Z[i] (List.getElem_mem hi')
    have k : ∀ j u, j < 6 → (Ze.c6 Z[i])[j]? = some u → w.cell? ⟨g, 0 + 6 * i + j, none⟩ = some u := fun j u hj hu => by
      rw [Nat.zero_add, Nat.mul_comm 6 i]
      exact hc _ _ (by rw [flat_get Ze.c6 6 ze6 Z i j hi' hj]; exact hu)
    have hrg := (hz.1.rv hz.2).rg
    simp only [List.getElem_map]
    exact ⟨Z[i].p, Z[i].c, Z[i].q, Z[i].d, k 0 _ (by decide) rfl, k 1 _ (by decide) rfl, k 2 _ (by decide) rfl, k 3 _ (by decide) rfl, k 4 _ (by decide) rfl, k 5 _ (by decide) rfl, hrg⟩
end Go.Proofs.Ytcibbnphkpaifaa
