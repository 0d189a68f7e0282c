/- Chapter 20: the plain law of Fill. No program walked. -/
import Derived.Test.YtlgnidjkilbdfaaLv
namespace Go.Proofs.Ytlgnidjkilbdfaa
open Ieee
set_option linter.unusedVariables false
set_option maxRecDepth 100000
/-- One behind the other: ticks rise, and no small gap is open. -/
def Rl (p q : Int × Nat) : Prop := p.1 < q.1 ∧ (gapN p q < 1 ∨ 3 < gapN p q)
def Lnk (L : Rc) : Prop := ∀ i, (h : i + 1 < L.length) → Rl L[i] L[i + 1]
theorem lastT_eq {A : Rc} (h : 0 < A.length) : lastT A = A[A.length - 1] := by
  unfold lastT
  rw [List.getD_eq_getElem?_getD, List.getElem?_eq_getElem (by omega)]
  rfl
theorem lnk_snoc {A : Rc} {s : Int × Nat} (h : Lnk A) (hl : A ≠ [] → Rl (lastT A) s) : Lnk (A ++ [s]) := by
  intro i hi
  rw [List.length_append, List.length_singleton] at hi
  rcases Nat.lt_or_ge (i + 1) A.length with h1 | h1
  · rw [List.getElem_append_left (by omega), List.getElem_append_left h1]
    exact h i h1
  · have hA : 0 < A.length := by omega
    have hr := hl (by rintro rfl; cases hA)
    rw [lastT_eq hA] at hr
    have e : i = A.length - 1 := by omega
    subst e
    rw [List.getElem_append_left (by omega), List.getElem_append_right (by omega)]
    simpa using hr
theorem put_lnk {o : Rc} {la s : Int × Nat} (h : Lnk o) (hne : o ≠ []) (hla : lastT o = la) : ∀ k, Lnk (o ++ putTo la s k) ∧ (lastT (o ++ putTo la s k)).1 = la.1 + (k : Int)
  | 0 => by
    have e : putTo la s 0 = [] := rfl
    rw [e, List.append_nil, hla]
    exact ⟨h, by simp⟩
  | k + 1 => by
    obtain ⟨h1, h2⟩ := put_lnk (s := s) h hne hla k
    rw [putTo_succ, ← List.append_assoc, lastT_snoc]
    refine ⟨lnk_snoc h1 fun _ => ?_, by show la.1 + 1 + (k : Int) = _; omega⟩
    unfold Rl gapN
    rw [h2]
    show la.1 + (k : Int) < la.1 + 1 + (k : Int) ∧ (la.1 + 1 + (k : Int) - (la.1 + (k : Int)) - 1 < 1 ∨ _)
    exact ⟨by omega, .inl (by omega)⟩
structure GInv2 (S o : Rc) (k : Nat) : Prop where
  lnk : Lnk o
  last : o ≠ [] → ∀ j, k ≤ j → (h : j < S.length) → (lastT o).1 < S[j].1
  mem : ∀ i, i < k → (h : i < S.length) → oneB S[i].2 = true → S[i] ∈ o
theorem asc_at {S : Rc} (ha : Asc S) {i j : Nat} (hij : i < j) (hj : j < S.length) : (S[i]'(by omega)).1 < S[j].1 := by
  unfold Asc at ha
  rw [List.pairwise_iff_getElem] at ha
  exact ha i j (by omega) hj hij
theorem GInv2.to {S : Rc} (ha : Asc S) : ∀ k, k ≤ S.length → GInv2 S (fillTo S k) k
  | 0, _ => ⟨(by rw [fillTo_zero]; intro i hi; cases hi), fun h => absurd (fillTo_zero S) h, fun i hi => by omega⟩
  | k + 1, hk => by
    have ih := GInv2.to ha k (by omega)
    have hS : S.getD k (0, 0) = S[k] := by rw [List.getD_eq_getElem?_getD, List.getElem?_eq_getElem (by omega)]; rfl
    rw [fillTo_succ (by omega), hS]
    generalize fillTo S k = o at *
    unfold stepF
    cases h1 : oneB S[k].2
    · rw [if_neg (by simp)]
      refine ⟨ih.lnk, fun h j hj hl => ih.last h j (by omega) hl, fun i hi hl h => ?_⟩
      rcases Nat.lt_or_ge i k with h2 | h2
      · exact ih.mem i h2 hl h
      · obtain rfl : i = k := by omega
        rw [h1] at h; cases h
    · rw [if_pos rfl]
      have hlast : ∀ j, k + 1 ≤ j → (h : j < S.length) → S[k].1 < S[j].1 := fun j hj hl => asc_at ha (by omega) hl
      by_cases h0 : o = []
      · subst h0
        rw [if_pos rfl]
        refine ⟨lnk_snoc (by intro i hi; cases hi) (fun h => absurd rfl h), fun _ => by rw [lastT_snoc]; exact hlast, fun i hi hl h => ?_⟩
        rcases Nat.lt_or_ge i k with h2 | h2
        · have := ih.mem i h2 hl h; cases this
        · obtain rfl : i = k := by omega
          simp
      · rw [if_neg h0]
        have hlt := ih.last h0 k (Nat.le_refl _) (by omega)
        refine ⟨?_, fun _ => by rw [lastT_snoc]; exact hlast, fun i hi hl h => ?_⟩
        · unfold putIn
          by_cases hg : gapN (lastT o) S[k] < 1 ∨ 3 < gapN (lastT o) S[k]
          · rw [if_pos hg, List.append_nil]
            exact lnk_snoc ih.lnk fun _ => ⟨hlt, hg⟩
          · rw [if_neg hg]
            obtain ⟨n, hn⟩ : ∃ n : Nat, gapN (lastT o) S[k] = n := ⟨(gapN (lastT o) S[k]).toNat, by omega⟩
            rw [hn, Int.toNat_natCast]
            obtain ⟨q1, q2⟩ := put_lnk (s := S[k]) ih.lnk h0 rfl n
            refine lnk_snoc q1 fun _ => ?_
            unfold Rl gapN
            rw [q2]
            unfold gapN at hn
            exact ⟨by omega, .inl (by omega)⟩
        · rcases Nat.lt_or_ge i k with h2 | h2
          · exact List.mem_append_left _ (List.mem_append_left _ (ih.mem i h2 hl h))
          · obtain rfl : i = k := by omega
            simp
/-- What Fill tells, it tells again. -/
theorem fill_twice {A : Rc} (hl : Lnk A) (h1 : ∀ x ∈ A, oneB x.2 = true) : ∀ k, k ≤ A.length → fillTo A k = A.take k
  | 0, _ => rfl
  | k + 1, hk => by
    have ih := fill_twice hl h1 k (by omega)
    have hA : A.getD k (0, 0) = A[k] := by rw [List.getD_eq_getElem?_getD, List.getElem?_eq_getElem (by omega)]; rfl
    rw [fillTo_succ (by omega), ih, hA, List.take_succ_eq_append_getElem (by omega)]
    unfold stepF
    rw [if_pos (h1 _ (List.getElem_mem _))]
    by_cases h0 : A.take k = []
    · rw [if_pos h0, h0]
    · rw [if_neg h0]
      have hk0 : 0 < k := by
        rcases Nat.eq_zero_or_pos k with h | h
        · subst h; exact absurd rfl h0
        · exact h
      have hlt : lastT (A.take k) = A[k - 1] := by
        rw [lastT_eq (by rw [List.length_take]; omega), List.getElem_take]
        congr 1
        rw [List.length_take]; omega
      have hr := hl (k - 1) (by omega)
      have e : A[k - 1 + 1]'(by omega) = A[k] := by congr 1; omega
      rw [e] at hr
      have hp : putIn (A[k - 1]'(by omega)) A[k] = [] := if_pos hr.2
      rw [hlt, hp, List.append_nil]
theorem lnk_asc {A : Rc} (h : Lnk A) : Asc A := by
  refine upto.asc (k := A.length) ?_ (Nat.le_refl _)
  intro j hj hl
  rw [List.getD_eq_getElem?_getD, List.getD_eq_getElem?_getD, List.getElem?_eq_getElem hl, List.getElem?_eq_getElem (by omega)]
  exact (h j hl).1
/-- All that CleanFills asks. -/
structure Told (S A : Rc) : Prop where
  one : ∀ x ∈ A, oneB x.2 = true
  w64 : ∀ x ∈ A, x.2 < 2 ^ 64
  rng : RngL A
  len : A.length ≤ 4 * S.length
  asc : Asc A
  e : fillE A = 0
  twice : fillL A = A
  lnk : Lnk A
  mem : ∀ i, (h : i < S.length) → oneB S[i].2 = true → S[i] ∈ A
theorem any_bad {A : Rc} (h : RngL A) : A.any badT = false := by
  rw [List.any_eq_false]
  intro x hx
  have := (h x hx).1
  unfold badT
  simp
  omega
theorem told_of {S : Rc} (h64 : ∀ x ∈ S, x.2 < 2 ^ 64) (he : fillE S = 0) : Told S (fillL S) ∧ Asc S := by
  unfold fillE at he
  by_cases ha : Asc S
  · rw [if_pos ha] at he
    cases hb : S.any badT
    · rw [hb] at he
      simp only [Bool.false_eq_true, if_false] at he
      cases hi : (fillL S).any (fun x => !oneB x.2)
      · have hr := rng_of hb h64
        have hI := FInv.to hr S.length (Nat.le_refl _)
        have hG := GInv2.to ha S.length (Nat.le_refl _)
        have h1 : ∀ x ∈ fillL S, oneB x.2 = true := fun x hx => by
          cases h : oneB x.2
          · rw [List.any_eq_true.2 ⟨x, hx, by rw [h]; rfl⟩] at hi; cases hi
          · rfl
        have ht : fillL (fillL S) = fillL S := by
          have := fill_twice hG.lnk h1 (fillL S).length (Nat.le_refl _)
          unfold fillL at this ⊢
          rw [this, List.take_length]
        refine ⟨⟨h1, fun x hx => (hI.rng x hx).2, hI.rng, hI.len, lnk_asc hG.lnk, ?_, ht, hG.lnk, fun i h => hG.mem i h h⟩, ha⟩
        have ha2 : Asc (fillL S) := lnk_asc hG.lnk
        have hb2 : (fillL S).any badT = false := any_bad hI.rng
        unfold fillE
        rw [if_pos ha2, hb2, ht, hi]
        rfl
      · rw [hi] at he; cases he
    · rw [hb] at he; cases he
  · rw [if_neg ha] at he; cases he
end Go.Proofs.Ytlgnidjkilbdfaa
