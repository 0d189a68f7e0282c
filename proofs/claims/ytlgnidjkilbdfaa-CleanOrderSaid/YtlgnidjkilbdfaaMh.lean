/- Chapter 20: Merge, its model. -/
import Derived.Test.YtlgnidjkilbdfaaMg2
namespace Go.Proofs.Ytlgnidjkilbdfaa
open Go.RowKit Go.Maps Ieee
set_option linter.unusedVariables false
set_option maxRecDepth 100000
abbrev Ls := List Rc
/-- A slice of slices of samples that came in. -/
def ML (w : World) (p : Option Addr) (S : Ls) : Prop := S = [] ∨ ∃ g o, p = some ⟨g, o, none⟩ ∧ g < w.heap.size ∧ ∀ k, k < S.length → ∃ q d, w.cell? ⟨g, o + k, none⟩ = some (.slice q (S.getD k []).length d) ∧ TL w q (S.getD k [])
theorem ML.below {w w' : World} {p : Option Addr} {S : Ls} (h : ML w p S) (hb : Below w.heap.size w w') : ML w' p S := by
  rcases h with h | ⟨g, o, rfl, hg, hc⟩
  · exact .inl h
  · refine .inr ⟨g, o, rfl, Nat.lt_of_lt_of_le hg hb.size, fun k hk => ?_⟩
    obtain ⟨q, d, h1, h2⟩ := hc k hk
    exact ⟨q, d, (hb.cell (p := ⟨g, o + k, none⟩) hg).trans h1, h2.below hb⟩
theorem ML.at_ {w w' : World} {p : Option Addr} {S : Ls} (h : ML w p S) (hb : Below w.heap.size w w') {k : Nat} (hk : k < S.length) :
    ∃ g o q d, p = some ⟨g, o, none⟩ ∧ w'.cell? ⟨g, o + k, none⟩ = some (.slice q (S.getD k []).length d) ∧ TL w q (S.getD k []) := by
  rcases h with rfl | ⟨g, o, rfl, hg, hc⟩
  · cases hk
  · obtain ⟨q, d, h1, h2⟩ := hc k hk
    exact ⟨g, o, q, d, rfl, (hb.cell (p := ⟨g, o + k, none⟩) hg).trans h1, h2⟩
def LW64 (S : Ls) : Prop := ∀ L ∈ S, ∀ x ∈ L, x.2 < 2 ^ 64
def bad1 (L : Rc) : Int := if 4096 < L.length then 3 else if L.any badT then 2 else 0
def firstBad (S : Ls) : Option Nat := (List.range S.length).find? fun k => bad1 (S.getD k []) != 0
theorem getD_memL {S : Ls} {k : Nat} (h : k < S.length) : S.getD k [] ∈ S := by
  rw [List.getD_eq_getElem?_getD, List.getElem?_eq_getElem h]
  exact List.getElem_mem h
theorem bad_none {S : Ls} (h : ∀ j, j < S.length → bad1 (S.getD j []) = 0) : firstBad S = none := by
  unfold firstBad
  rw [List.find?_eq_none]
  intro k hk
  rw [List.mem_range] at hk
  rw [h k hk]; decide
theorem bad_some {S : Ls} {k : Nat} (hk : k < S.length) (h : ∀ j, j < k → bad1 (S.getD j []) = 0) (hb : bad1 (S.getD k []) ≠ 0) : firstBad S = some k := by
  unfold firstBad
  rw [List.find?_eq_some_iff_append]
  refine ⟨by simpa using hb, List.range k, (List.range (S.length - k - 1)).map (· + (k + 1)), ?_, ?_⟩
  · rw [show S.length = k + 1 + (S.length - k - 1) by omega]
    rw [List.range_add, List.range_succ]
    simp only [List.append_assoc, List.singleton_append]
    congr 2
    rw [show k + 1 + (S.length - k - 1) - k - 1 = S.length - k - 1 by omega]
    refine List.map_congr_left fun x _ => ?_
    omega
  · intro a ha
    rw [List.mem_range] at ha
    rw [h a ha]; decide
/-- The finite samples gone through: i lists, and k samples of the next. -/
def pTo (S : Ls) (i k : Nat) : Rc := ((S.take i).flatten ++ (S.getD i []).take k).filter fun x => oneB x.2
def allP (S : Ls) : Rc := S.flatten.filter fun x => oneB x.2
theorem pTo_zero (S : Ls) : pTo S 0 0 = [] := by simp [pTo]
theorem pTo_all (S : Ls) : pTo S S.length 0 = allP S := by simp [pTo, allP]
theorem pTo_next {S : Ls} {i : Nat} (h : i < S.length) : pTo S i (S.getD i []).length = pTo S (i + 1) 0 := by
  unfold pTo
  rw [List.take_length, List.take_zero, List.append_nil, List.take_succ_eq_append_getElem h, List.flatten_append, List.getD_eq_getElem?_getD, List.getElem?_eq_getElem h]
  simp
theorem pTo_yes {S : Ls} {i k : Nat} {x : Int × Nat} (h : k < (S.getD i []).length) (e : (S.getD i []).getD k (0, 0) = x) (hx : oneB x.2 = true) : pTo S i (k + 1) = pTo S i k ++ [x] := by
  unfold pTo
  rw [take_snoc _ k h, ← List.append_assoc, List.filter_append, e, List.filter_cons_of_pos (p := fun y : Int × Nat => oneB y.2) hx]
  rfl
theorem pTo_no {S : Ls} {i k : Nat} {x : Int × Nat} (h : k < (S.getD i []).length) (e : (S.getD i []).getD k (0, 0) = x) (hx : oneB x.2 = false) : pTo S i (k + 1) = pTo S i k := by
  unfold pTo
  rw [take_snoc _ k h, ← List.append_assoc, List.filter_append, e, List.filter_cons_of_neg (p := fun y : Int × Nat => oneB y.2) (by rw [hx]; simp), List.filter_nil, List.append_nil]
theorem flat_bound {S : Ls} (h : ∀ L ∈ S, L.length ≤ 4096) : S.flatten.length ≤ 4096 * S.length := by
  induction S with
  | nil => simp
  | cons a r ih =>
    have h1 := h a (by simp)
    have h2 := ih (fun L hL => h L (by simp [hL]))
    rw [List.flatten_cons, List.length_append, List.length_cons]
    omega
theorem pTo_len {S : Ls} (h : ∀ L ∈ S, L.length ≤ 4096) (h16 : S.length ≤ 16) {i k : Nat} (hi : i ≤ S.length) (hk : k ≤ 4096) : (pTo S i k).length ≤ 69632 := by
  unfold pTo
  refine Nat.le_trans (List.length_filter_le _ _) ?_
  rw [List.length_append, List.length_take]
  have h1 := flat_bound (S := S.take i) (fun L hL => h L (List.mem_of_mem_take hL))
  rw [List.length_take] at h1
  omega
theorem all_len {S : Ls} (h : ∀ L ∈ S, L.length ≤ 4096) (h16 : S.length ≤ 16) : (allP S).length ≤ 65536 := by
  unfold allP
  refine Nat.le_trans (List.length_filter_le _ _) ?_
  have h1 := flat_bound h
  omega
theorem good_of {S : Ls} (h : ∀ j, j < S.length → bad1 (S.getD j []) = 0) : ∀ L ∈ S, L.length ≤ 4096 ∧ L.any badT = false := by
  intro L hL
  obtain ⟨j, hj, rfl⟩ := List.getElem_of_mem hL
  have h1 := h j hj
  rw [List.getD_eq_getElem?_getD, List.getElem?_eq_getElem hj] at h1
  simp only [Option.getD_some] at h1
  unfold bad1 at h1
  split at h1
  · cases h1
  · rename_i h2
    refine ⟨by omega, ?_⟩
    cases h3 : (S[j]).any badT
    · rfl
    · rw [h3] at h1; simp at h1
structure PInv (P : Rc) : Prop where
  rng : ∀ x ∈ P, 0 ≤ x.1 ∧ x.1 ≤ 1048576
  w64 : ∀ x ∈ P, x.2 < 2 ^ 64
  one : ∀ x ∈ P, oneB x.2 = true
theorem rng_bad {L : Rc} (h : L.any badT = false) : ∀ x ∈ L, 0 ≤ x.1 ∧ x.1 ≤ 1048576 := by
  intro x hx
  have h1 : badT x = false := by
    rw [Bool.eq_false_iff]
    intro hb
    rw [List.any_eq_true.2 ⟨x, hx, hb⟩] at h
    cases h
  unfold badT at h1
  simp at h1
  exact h1
theorem PInv.of {S : Ls} (h64 : LW64 S) (h : ∀ L ∈ S, L.any badT = false) {A : Rc} (hA : ∀ x ∈ A, ∃ L ∈ S, x ∈ L) : PInv (A.filter fun x => oneB x.2) := by
  refine ⟨fun x hx => ?_, fun x hx => ?_, fun x hx => (List.mem_filter.1 hx).2⟩
  · obtain ⟨L, hL, hxL⟩ := hA x (List.mem_filter.1 hx).1
    exact rng_bad (h L hL) x hxL
  · obtain ⟨L, hL, hxL⟩ := hA x (List.mem_filter.1 hx).1
    exact h64 L hL x hxL
theorem PInv.all {S : Ls} (h64 : LW64 S) (h : ∀ L ∈ S, L.any badT = false) : PInv (allP S) := PInv.of h64 h (fun x hx => List.mem_flatten.1 hx)
/-- What Merge comes to. -/
def mOut (P : Rc) : Rc := (KT P).map fun t => (t, meanV (srt (hts P t)))
def mOver (P : Rc) : Bool := (KT P).any fun t => meanE (srt (hts P t)) != 0
def mRes (S : Ls) : Rc × Int × Int :=
  if 16 < S.length then ([], 3, -1) else match firstBad S with
    | some k => ([], bad1 (S.getD k []), k)
    | none => if mOver (allP S) then ([], 9, -1) else if 4096 < (KT (allP S)).length then ([], 3, -1) else (mOut (allP S), 0, 0)
theorem meanE_or (S : List Nat) : meanE S = 0 ∨ meanE S = 9 := by
  unfold meanE
  split
  · exact .inl rfl
  · split
    · exact .inl rfl
    · exact .inr rfl
def outTo (P : Rc) (k : Nat) : Rc := ((KT P).take k).map fun t => (t, meanV (srt (hts P t)))
theorem outTo_succ {P : Rc} {k : Nat} (h : k < (KT P).length) : outTo P (k + 1) = outTo P k ++ [((KT P).getD k 0, meanV (srt (hts P ((KT P).getD k 0))))] := by
  unfold outTo
  rw [List.take_succ_eq_append_getElem h, List.map_append, List.getD_eq_getElem?_getD, List.getElem?_eq_getElem h, Option.getD_some, List.map_cons, List.map_nil]
theorem outTo_len {P : Rc} {k : Nat} (h : k ≤ (KT P).length) : (outTo P k).length = k := by
  unfold outTo
  rw [List.length_map, List.length_take]
  omega
theorem outTo_all (P : Rc) : outTo P (KT P).length = mOut P := by
  unfold outTo mOut
  rw [List.take_length]
theorem hts_w64 {P : Rc} (h : ∀ x ∈ P, x.2 < 2 ^ 64) (t : Int) : W64 (hts P t) := fun x hx => h _ (hts_mem.1 hx)
theorem KT_getD {P : Rc} {k : Nat} (h : k < (KT P).length) : (KT P).getD k 0 ∈ KT P := by
  rw [List.getD_eq_getElem?_getD, List.getElem?_eq_getElem h, Option.getD_some]
  exact List.getElem_mem h
theorem over_of {P : Rc} {k : Nat} (h : k < (KT P).length) (he : meanE (srt (hts P ((KT P).getD k 0))) ≠ 0) : mOver P = true := by
  unfold mOver
  rw [List.any_eq_true]
  exact ⟨_, KT_getD h, by simpa using he⟩
theorem over_not {P : Rc} (h : ∀ k, k < (KT P).length → meanE (srt (hts P ((KT P).getD k 0))) = 0) : mOver P = false := by
  unfold mOver
  rw [List.any_eq_false]
  intro t ht
  obtain ⟨k, hk, rfl⟩ := List.getElem_of_mem ht
  have := h k hk
  rw [List.getD_eq_getElem?_getD, List.getElem?_eq_getElem hk, Option.getD_some] at this
  simpa using this
theorem getD_iv {L : List Int} {k : Nat} (h : k < L.length) : (L.map iv)[k]? = some (.int .i64 (L.getD k 0)) := by
  rw [List.getElem?_map, List.getElem?_eq_getElem h, List.getD_eq_getElem?_getD, List.getElem?_eq_getElem h, Option.getD_some]
  rfl
end Go.Proofs.Ytlgnidjkilbdfaa
