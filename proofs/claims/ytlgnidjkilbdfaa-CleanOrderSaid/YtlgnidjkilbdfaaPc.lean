/- Chapter 20: lists in another order (turned). -/
import Derived.Test.YtlgnidjkilbdfaaPb
namespace Go.Proofs.Ytlgnidjkilbdfaa
open Go.RowKit Ieee
set_option linter.unusedVariables false
set_option maxRecDepth 100000
def pickN (n : Int) (m : Nat) : Nat := (if n.tmod m < 0 then n.tmod m + m else n.tmod m).toNat
theorem pick_rng (n : Int) (m : Nat) (h1 : 1 ≤ m) : n.tmod m < m ∧ -(m : Int) < n.tmod m := by
  refine ⟨Int.tmod_lt_of_pos n (by omega), ?_⟩
  have h := Int.tmod_lt_of_pos (-n) (show (0 : Int) < m by omega)
  rw [Int.neg_tmod] at h
  omega
theorem pickN_lt (n : Int) (m : Nat) (h1 : 1 ≤ m) : pickN n m < m := by
  obtain ⟨a, b⟩ := pick_rng n m h1
  unfold pickN
  split <;> omega
theorem pick_any (n : Int) (m : Nat) (h1 : 1 ≤ m) (h2 : m ≤ 1000) (w : World) : Calls Try.prog 102 #[.int .i64 n, .int .i64 m] w fun e w' => e = .returned (.int .i64 (pickN n m)) ∧ w = w' := by
  have hm0 : (m : Int) ≠ 0 := by omega
  obtain ⟨a1, a2⟩ := pick_rng n m h1
  have hne : ((m : Int) == 0) = false := by simpa using hm0
  unfold pickN
  generalize hq : n.tmod (m : Int) = q at *
  have hq2 : IntKind.i64.wrap q = q := IntWalk.i64_in _ (by omega)
  by_cases hneg : q < 0
  · have hq3 : IntKind.i64.wrap (q + m) = q + m := IntWalk.i64_in _ (by omega)
    rw [if_pos hneg, Int.toNat_of_nonneg (by omega)]
    go_enter Try.func102, Try.ntmps102
    go_wp2
    go_ret
    exact ⟨by simp, rfl⟩
  · rw [if_neg hneg, Int.toNat_of_nonneg (by omega)]
    go_enter Try.func102, Try.ntmps102
    go_wp2
    go_ret
    exact ⟨by simp, rfl⟩
/-! ### swaps -/
theorem perm_swap {α : Type} (L : List α) {i j : Nat} (hi : i < L.length) (hj : j < L.length) : ((L.set i L[j]).set j L[i]).Perm L := by
  have h := Array.swap_perm (xs := L.toArray) (i := i) (j := j) (by simpa using hi) (by simpa using hj)
  rw [Array.perm_iff_toList_perm] at h
  simpa [Array.swap] using h
theorem flat_set : ∀ (L : Rc) (k : Nat) (x : Int × Nat), k < L.length → flat (L.set k x) = ((flat L).set (k * 2) (.int .i64 x.1)).set (k * 2 + 1) (.float .f64 x.2)
  | [], k, x, h => by cases h
  | p :: L, 0, x, h => by simp [flat]
  | p :: L, k + 1, x, h => by
    have ih := flat_set L k x (by simpa using h)
    have e : ∀ q (M : Rc), flat (q :: M) = .int .i64 q.1 :: .float .f64 q.2 :: flat M := fun q M => rfl
    rw [List.set_cons_succ, e, e, ih, show (k + 1) * 2 = k * 2 + 1 + 1 by omega, List.set_cons_succ, List.set_cons_succ, List.set_cons_succ, List.set_cons_succ]
/-- The lists as they stand: an outer row, each list in a row of its own. -/
structure Trn (w : World) (B : Nat) (T : Ls) (u : Value) (xs : List Value) : Prop where
  row : w.ownsRow B 23 1 u T.length xs
  el : ∀ j, j < T.length → ∃ p c, xs[j]? = some (.slice p (T.getD j []).length c) ∧ w.ownsRow B 26 2 (.slice p (T.getD j []).length c) (T.getD j []).length (flat (T.getD j []))
  ap : ∀ i j, i < j → j < T.length → ∀ x y, xs[i]? = some x → xs[j]? = some y → Apart x y
theorem Trn.len {w : World} {B : Nat} {T : Ls} {u : Value} {xs : List Value} (h : Trn w B T u xs) : xs.length = T.length := by have := h.row.1; simpa using this
theorem Trn.ml {w : World} {B : Nat} {T : Ls} {p : Option Addr} {c : Nat} {xs : List Value} (h : Trn w B T (.slice p T.length c) xs) : ML w p T := by
  rcases Nat.eq_zero_or_pos T.length with h0 | h0
  · exact .inl (List.eq_nil_of_length_eq_zero h0)
  · obtain ⟨g, rfl, _, hg, hc⟩ := row_cells h.row h0
    refine .inr ⟨g, 0, rfl, hg, fun k hk => ?_⟩
    obtain ⟨q, d, h1, h3⟩ := h.el k hk
    exact ⟨q, d, by rw [Nat.zero_add]; exact hc _ _ h1, SL.tl (S := T.getD k []) h3⟩
def sig (a b j : Nat) : Nat := if j = b then a else if j = a then b else j
theorem sig_lt {a b j n : Nat} (ha : a < n) (hb : b < n) (hj : j < n) : sig a b j < n := by
  unfold sig
  split
  · exact ha
  · split
    · exact hb
    · exact hj
theorem sig_ne {a b i j : Nat} (h : i ≠ j) : sig a b i ≠ sig a b j := by unfold sig; split <;> split <;> (try split) <;> (try split) <;> omega
theorem get_swap {α : Type} (L : List α) {a b : Nat} (ha : a < L.length) (hb : b < L.length) (j : Nat) : ((L.set a L[b]).set b L[a])[j]? = L[sig a b j]? := by
  unfold sig
  rw [List.getElem?_set, List.getElem?_set, List.length_set]
  by_cases h1 : j = b
  · subst h1
    rw [if_pos rfl, if_pos rfl, if_pos hb, List.getElem?_eq_getElem ha]
  · have h1' : ¬ b = j := fun e => h1 e.symm
    rw [if_neg h1', if_neg h1]
    by_cases h2 : j = a
    · subst h2
      rw [if_pos rfl, if_pos rfl, if_pos ha, List.getElem?_eq_getElem hb]
    · have h2' : ¬ a = j := fun e => h2 e.symm
      rw [if_neg h2', if_neg h2]
def swp {α : Type} [Inhabited α] (L : List α) (a b : Nat) : List α := (L.set a (L.getD b default)).set b (L.getD a default)
theorem swp_eq {α : Type} [Inhabited α] (L : List α) {a b : Nat} (ha : a < L.length) (hb : b < L.length) : swp L a b = (L.set a L[b]).set b L[a] := by
  unfold swp
  rw [List.getD_eq_getElem?_getD, List.getD_eq_getElem?_getD, List.getElem?_eq_getElem ha, List.getElem?_eq_getElem hb, Option.getD_some, Option.getD_some]
theorem swp_len {α : Type} [Inhabited α] (L : List α) (a b : Nat) : (swp L a b).length = L.length := by unfold swp; rw [List.length_set, List.length_set]
theorem swp_get {α : Type} [Inhabited α] (L : List α) {a b : Nat} (ha : a < L.length) (hb : b < L.length) (j : Nat) : (swp L a b)[j]? = L[sig a b j]? := by rw [swp_eq L ha hb]; exact get_swap L ha hb j
theorem swp_perm {α : Type} [Inhabited α] (L : List α) {a b : Nat} (ha : a < L.length) (hb : b < L.length) : (swp L a b).Perm L := by rw [swp_eq L ha hb]; exact perm_swap L ha hb
theorem Trn.apart {w : World} {B : Nat} {T : Ls} {u : Value} {xs : List Value} (h : Trn w B T u xs) {i j : Nat} (hne : i ≠ j) (hi : i < T.length) (hj : j < T.length) {x y : Value} (hx : xs[i]? = some x) (hy : xs[j]? = some y) : Apart x y := by
  rcases Nat.lt_or_gt_of_ne hne with h1 | h1
  · exact h.ap i j h1 hj x y hx hy
  · exact (h.ap j i h1 hi y x hy hx).symm
/-- Two lists change places. -/
theorem Trn.swap {w : World} {B g n cap a b : Nat} {T : Ls} {xs : List Value} {x y : Value} (h : Trn w B T (.slice (some ⟨g, 0, none⟩) n cap) xs) (hn : n = T.length) (ha : a < T.length) (hb : b < T.length) (hx : xs[a]? = some x) (hy : xs[b]? = some y) :
    Trn ((w.setCell ⟨g, a, none⟩ y).setCell ⟨g, b, none⟩ x) B (swp T a b) (.slice (some ⟨g, 0, none⟩) n cap) ((xs.set a y).set b x) := by
  subst hn
  have hxl := h.len
  have e1 : (xs.set a y).set b x = (xs.set a (xs[b]'(by omega))).set b (xs[a]'(by omega)) := by
    rw [List.getElem?_eq_getElem (by omega)] at hx hy
    cases hx
    cases hy
    rfl
  obtain ⟨s1, s2⟩ := h.row.stored a y
  obtain ⟨s3, s4⟩ := s1.stored b x
  have hgr := s2.trans s4
  obtain ⟨cur, hg⟩ : ∃ cur, w.heap[g]? = some (.cells cur 23) := by
    rcases row_block h.row with ⟨e, _⟩ | ⟨g', c', cur, e, _, hg, _⟩
    · cases e
    · cases e; exact ⟨cur, hg⟩
  have hget : ∀ j, ((xs.set a y).set b x)[j]? = xs[sig a b j]? := fun j => by rw [e1]; exact get_swap xs (by omega) (by omega) j
  have hgT : ∀ j, (swp T a b).getD j [] = T.getD (sig a b j) [] := fun j => by rw [List.getD_eq_getElem?_getD, List.getD_eq_getElem?_getD, swp_get T ha hb]
  refine ⟨by rw [swp_len]; exact s3, fun j hj => ?_, fun i j hij hj p q hp hq => ?_⟩
  · rw [swp_len] at hj
    rw [hget, hgT]
    obtain ⟨p, c, h1, h2⟩ := h.el _ (sig_lt ha hb hj)
    exact ⟨p, c, h1, h2.kept hgr (.inr (row_type h2 hg (by decide)))⟩
  · rw [swp_len] at hj
    rw [hget] at hp hq
    exact h.apart (sig_ne (by omega)) (sig_lt ha hb (by omega)) (sig_lt ha hb hj) hp hq
/-- Two samples of one list change places. -/
theorem Trn.inner {w : World} {B g ca a c d : Nat} {T : Ls} {xs : List Value} {u : Value} (h : Trn w B T u xs) (ha : a < T.length) (hx : xs[a]? = some (.slice (some ⟨g, 0, none⟩) (T.getD a []).length ca)) (hc : c < (T.getD a []).length) (hd : d < (T.getD a []).length) :
    Trn ((((w.setCell ⟨g, c * 2, none⟩ (.int .i64 ((T.getD a []).getD d (0, 0)).1)).setCell ⟨g, c * 2 + 1, none⟩ (.float .f64 ((T.getD a []).getD d (0, 0)).2)).setCell ⟨g, d * 2, none⟩ (.int .i64 ((T.getD a []).getD c (0, 0)).1)).setCell ⟨g, d * 2 + 1, none⟩ (.float .f64 ((T.getD a []).getD c (0, 0)).2)) B
      (T.set a (((T.getD a []).set c ((T.getD a []).getD d (0, 0))).set d ((T.getD a []).getD c (0, 0)))) u xs := by
  obtain ⟨p, ca', h1, h2⟩ := h.el a ha
  rw [hx] at h1
  simp only [Option.some.injEq, Value.slice.injEq, true_and] at h1
  obtain ⟨rfl, rfl⟩ := h1
  obtain ⟨s1, t1⟩ := h2.stored (c * 2) (.int .i64 ((T.getD a []).getD d (0, 0)).1)
  obtain ⟨s2, t2⟩ := s1.stored (c * 2 + 1) (.float .f64 ((T.getD a []).getD d (0, 0)).2)
  obtain ⟨s3, t3⟩ := s2.stored (d * 2) (.int .i64 ((T.getD a []).getD c (0, 0)).1)
  obtain ⟨s4, t4⟩ := s3.stored (d * 2 + 1) (.float .f64 ((T.getD a []).getD c (0, 0)).2)
  rw [← flat_set _ _ _ hc, ← flat_set _ _ _ (by rw [List.length_set]; exact hd)] at s4
  have hgr := ((t1.trans t2).trans t3).trans t4
  obtain ⟨cur, hg⟩ : ∃ cur, w.heap[g]? = some (.cells cur 26) := by
    rcases row_block h2 with ⟨e, _⟩ | ⟨g', c', cur, e, _, hg, _⟩
    · cases e
    · cases e; exact ⟨cur, hg⟩
  have hlen : (((T.getD a []).set c ((T.getD a []).getD d (0, 0))).set d ((T.getD a []).getD c (0, 0))).length = (T.getD a []).length := by rw [List.length_set, List.length_set]
  have hget : ∀ j, (T.set a (((T.getD a []).set c ((T.getD a []).getD d (0, 0))).set d ((T.getD a []).getD c (0, 0)))).getD j [] = if a = j then (((T.getD a []).set c ((T.getD a []).getD d (0, 0))).set d ((T.getD a []).getD c (0, 0))) else T.getD j [] := fun j => by
    rw [List.getD_eq_getElem?_getD, List.getElem?_set]
    by_cases e : a = j
    · subst e; rw [if_pos rfl, if_pos rfl, if_pos ha]; rfl
    · rw [if_neg e, if_neg e, ← List.getD_eq_getElem?_getD]
  refine ⟨by rw [List.length_set]; exact h.row.kept hgr (.inr (row_type h.row hg (by decide))), fun j hj => ?_, fun i j hij hj p q hp hq => h.ap i j hij (by rw [List.length_set] at hj; exact hj) p q hp hq⟩
  rw [List.length_set] at hj
  rw [hget]
  by_cases e : a = j
  · subst e
    rw [if_pos rfl, hlen]
    exact ⟨_, _, hx, s4⟩
  · rw [if_neg e]
    obtain ⟨q, cq, e1, e2⟩ := h.el j hj
    refine ⟨q, cq, e1, e2.kept hgr ?_⟩
    cases hq : (Value.slice q (T.getD j []).length cq).ownBlock with
    | none => exact .inl rfl
    | some k => exact .inr (fun e3 => by cases e3; exact h.apart e ha hj hx e1 g rfl hq)
theorem flat_perm : ∀ {T : Ls} {a : Nat} {L : Rc}, a < T.length → L.Perm (T.getD a []) → (T.set a L).flatten.Perm T.flatten
  | [], a, L, h, _ => by cases h
  | x :: r, 0, L, _, hp => by
    simp only [List.set_cons_zero, List.flatten_cons]
    exact List.Perm.append_right _ (by simpa using hp)
  | x :: r, a + 1, L, h, hp => by
    simp only [List.set_cons_succ, List.flatten_cons]
    exact List.Perm.append_left _ (flat_perm (by simpa using h) (by simpa using hp))
end Go.Proofs.Ytlgnidjkilbdfaa
