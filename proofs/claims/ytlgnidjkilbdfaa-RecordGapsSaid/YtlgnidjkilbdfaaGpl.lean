/- Chapter 19: gaps and samples are the span: the plain law. -/
import Derived.Test.YtlgnidjkilbdfaaAbs
namespace Go.Proofs.Ytlgnidjkilbdfaa
open Go.RowKit
set_option linter.unusedVariables false
theorem gst_pre (a : Int) (S : Rc) : ∀ {i j : Nat}, i ≤ j → j ≤ S.length → ∃ R, (gst a S j).1 = (gst a S i).1 ++ R := by
  intro i j hij hj
  induction j with
  | zero => obtain rfl : i = 0 := by omega
            exact ⟨[], by simp⟩
  | succ j ih =>
    rcases Nat.lt_or_ge i (j + 1) with h | h
    · obtain ⟨R, hR⟩ := ih (by omega) (by omega)
      rw [gst_succ a S j (by omega)]
      unfold gstep
      split
      · simp only; exact ⟨R ++ _, by rw [hR, List.append_assoc]⟩
      · simp only; exact ⟨R, hR⟩
    · obtain rfl : i = j + 1 := by omega
      exact ⟨[], by simp⟩
/-- Where the check of a span stands: at 'at', behind i samples and k gaps. -/
structure GInv (a b : Int) (B : Rc) (at_ : Int) (i k : Nat) : Prop where
  hi : i ≤ B.length
  lo : (gst a (B ++ [(b, 0)]) i).2 ≤ at_
  up : at_ ≤ ((B ++ [(b, 0)]).getD i (0, 0)).1
  open_ : at_ < ((B ++ [(b, 0)]).getD i (0, 0)).1 → at_ = (gst a (B ++ [(b, 0)]) i).2 ∧ k = (gst a (B ++ [(b, 0)]) i).1.length
  shut : at_ = ((B ++ [(b, 0)]).getD i (0, 0)).1 → k = (gst a (B ++ [(b, 0)]) (i + 1)).1.length
/-- What is asked of the samples of a span. -/
structure Span (a b : Int) (B : Rc) : Prop where
  ab : a ≤ b
  asc : Asc B
  rng : ∀ p ∈ B, a ≤ p.1 ∧ p.1 < b
theorem span_at {a b : Int} {B : Rc} (h : Span a b B) {i : Nat} (hi : i < B.length) : a ≤ (B.getD i (0, 0)).1 ∧ (B.getD i (0, 0)).1 < b := h.rng _ (mem_getD hi)
theorem get_left {B : Rc} {b : Int} {i : Nat} (hi : i < B.length) : (B ++ [(b, 0)]).getD i (0, 0) = B.getD i (0, 0) := by
  rw [List.getD_eq_getElem?_getD, List.getD_eq_getElem?_getD, List.getElem?_append_left hi]
theorem get_last (B : Rc) (b : Int) : (B ++ [(b, 0)]).getD B.length (0, 0) = (b, 0) := by
  rw [List.getD_eq_getElem?_getD, List.getElem?_append_right (Nat.le_refl _)]
  simp
theorem span_le {a b : Int} {B : Rc} (h : Span a b B) {i : Nat} (hi : i ≤ B.length) : ((B ++ [(b, 0)]).getD i (0, 0)).1 ≤ b := by
  rcases Nat.lt_or_ge i B.length with h' | h'
  · rw [get_left h']; have := span_at h h'; omega
  · obtain rfl : i = B.length := by omega
    rw [get_last]
    exact Int.le_refl _
theorem span_from {a b : Int} {B : Rc} (h : Span a b B) : ∀ {i : Nat}, i ≤ B.length → (gst a (B ++ [(b, 0)]) i).2 ≤ ((B ++ [(b, 0)]).getD i (0, 0)).1
  | 0, hi => by
    rw [show (gst a (B ++ [(b, 0)]) 0).2 = a from rfl]
    rcases Nat.lt_or_ge 0 B.length with h' | h'
    · rw [get_left h']; exact (span_at h h').1
    · obtain rfl : B = [] := List.eq_nil_of_length_eq_zero (by omega)
      exact h.ab
  | i + 1, hi => by
    rw [gst_succ a _ i (by simp; omega)]
    unfold gstep
    simp only
    rw [get_left (show i < B.length by omega)]
    rcases Nat.lt_or_ge (i + 1) B.length with h' | h'
    · rw [get_left h']
      have := List.pairwise_iff_getElem.1 h.asc i (i + 1) (by omega) h' (by omega)
      rw [List.getD_eq_getElem?_getD, List.getD_eq_getElem?_getD, List.getElem?_eq_getElem h', List.getElem?_eq_getElem (show i < B.length by omega)]
      simp only [Option.getD_some]
      omega
    · obtain h0 : i + 1 = B.length := by omega
      have := span_at h (show i < B.length by omega)
      rw [h0, get_last]
      simp only
      omega
theorem gst_two {a b : Int} {B : Rc} {i : Nat} (hi : i ≤ B.length) : (gst a (B ++ [(b, 0)]) (i + 1)).2 = ((B ++ [(b, 0)]).getD i (0, 0)).1 + 1 := by
  rw [gst_succ a _ i (by simp; omega)]
  rfl
theorem gst_one {a b : Int} {B : Rc} {i : Nat} (hi : i ≤ B.length) : (gst a (B ++ [(b, 0)]) (i + 1)).1 = if (gst a (B ++ [(b, 0)]) i).2 < ((B ++ [(b, 0)]).getD i (0, 0)).1 then (gst a (B ++ [(b, 0)]) i).1 ++ [((gst a (B ++ [(b, 0)]) i).2, ((B ++ [(b, 0)]).getD i (0, 0)).1 - (gst a (B ++ [(b, 0)]) i).2)] else (gst a (B ++ [(b, 0)]) i).1 := by
  rw [gst_succ a _ i (by simp; omega)]
  rfl
theorem GInv.start {a b : Int} {B : Rc} (h : Span a b B) : GInv a b B a 0 0 := by
  have hf := span_from h (Nat.zero_le _)
  refine ⟨Nat.zero_le _, Int.le_refl _, hf, fun _ => ⟨rfl, rfl⟩, fun e => ?_⟩
  rw [gst_one (Nat.zero_le _), if_neg (by rw [show (gst a (B ++ [(b, 0)]) 0).2 = a from rfl]; omega)]
  rfl
theorem GInv.last {a b : Int} {B : Rc} {at_ : Int} {i k : Nat} (h : GInv a b B at_ i k) (hs : Span a b B) (hb : ¬ at_ < b) : at_ = b ∧ i = B.length ∧ k = (gst a (B ++ [(b, 0)]) (B.length + 1)).1.length := by
  have h1 := h.up
  have h2 := span_le hs h.hi
  have h3 := h.hi
  have hi : i = B.length := by
    rcases Nat.lt_or_ge i B.length with h' | h'
    · rw [get_left h'] at h1
      have := span_at hs h'
      omega
    · omega
  subst hi
  rw [get_last] at h1
  exact ⟨by simp only at h1; omega, rfl, h.shut (by rw [get_last]; simp only at h1 ⊢; omega)⟩
/-- At a sample. -/
theorem GInv.sample {a b : Int} {B : Rc} {at_ : Int} {i k : Nat} (h : GInv a b B at_ i k) (hs : Span a b B) (hi : i < B.length) (he : (B.getD i (0, 0)).1 = at_) : GInv a b B (at_ + 1) (i + 1) k := by
  have hk := h.shut (by rw [get_left hi]; exact he.symm)
  have hf := span_from hs (show i + 1 ≤ B.length by omega)
  have h2 : (gst a (B ++ [(b, 0)]) (i + 1)).2 = at_ + 1 := by rw [gst_two (by omega), get_left hi, he]
  rw [h2] at hf
  refine ⟨by omega, by rw [h2]; exact Int.le_refl _, hf, fun _ => ⟨h2.symm, hk⟩, fun e => ?_⟩
  rw [hk, gst_one (show i + 1 ≤ B.length by omega), if_neg (by rw [h2]; omega)]
/-- At a gap. -/
theorem GInv.gap {a b : Int} {B : Rc} {at_ : Int} {i k : Nat} (h : GInv a b B at_ i k) (hs : Span a b B) (hb : at_ < b) (hn : ¬ (i < B.length ∧ (B.getD i (0, 0)).1 = at_)) :
    k < (gst a (B ++ [(b, 0)]) (B.length + 1)).1.length ∧ (gst a (B ++ [(b, 0)]) (B.length + 1)).1.getD k (0, 0) = (at_, ((B ++ [(b, 0)]).getD i (0, 0)).1 - at_) ∧ at_ < ((B ++ [(b, 0)]).getD i (0, 0)).1 ∧ GInv a b B ((B ++ [(b, 0)]).getD i (0, 0)).1 i (k + 1) := by
  have hlt : at_ < ((B ++ [(b, 0)]).getD i (0, 0)).1 := by
    have h1 := h.up
    have h3 := h.hi
    rcases Nat.lt_or_ge i B.length with h' | h'
    · rw [get_left h'] at h1 ⊢
      have : (B.getD i (0, 0)).1 ≠ at_ := fun e => hn ⟨h', e⟩
      omega
    · obtain rfl : i = B.length := by omega
      rw [get_last]; exact hb
  obtain ⟨e1, e2⟩ := h.open_ hlt
  have hone := gst_one (a := a) (b := b) h.hi
  rw [← e1, if_pos hlt] at hone
  obtain ⟨R, hR⟩ := gst_pre a (B ++ [(b, 0)]) (i := i + 1) (j := B.length + 1) (by have := h.hi; omega) (by simp)
  have hlen : (gst a (B ++ [(b, 0)]) (i + 1)).1.length = k + 1 := by rw [hone, List.length_append, ← e2]; rfl
  refine ⟨by rw [hR, List.length_append]; omega, ?_, hlt, ⟨h.hi, by have := h.lo; omega, Int.le_refl _, fun h' => absurd h' (by omega), fun _ => hlen.symm⟩⟩
  rw [hR, List.getD_eq_getElem?_getD, List.getElem?_append_left (by omega), hone, List.getElem?_append_right (by omega), e2]
  simp
theorem span_bt {L : Rc} {a b : Int} (h : Ok L) (he : askE a b = 0) : Span a b (bt L a b) := by
  refine ⟨(ask_zero he).2.2, ?_, fun p hp => ⟨(bt_mem hp).2.1, (bt_mem hp).2.2.1⟩⟩
  unfold bt
  rw [if_pos he]
  exact (h.asc.filter _).filter _
theorem gaps_of (L : Rc) {a b : Int} (he : askE a b = 0) : gapsOf L a b = (gst a (bt L a b ++ [(b, 0)]) ((bt L a b).length + 1)).1 := by
  unfold gapsOf
  rw [if_pos he]
  simp
end Go.Proofs.Ytlgnidjkilbdfaa
