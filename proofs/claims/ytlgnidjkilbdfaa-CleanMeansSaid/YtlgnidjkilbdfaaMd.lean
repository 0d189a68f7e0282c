/- Chapter 20: Median. -/
import Derived.Test.YtlgnidjkilbdfaaSo2
import Derived.Test.YtlgnidjkilbdfaaHf
import Derived.IntWalk
namespace Go.Proofs.Ytlgnidjkilbdfaa
open Go.RowKit Ieee
set_option linter.unusedVariables false
set_option maxRecDepth 100000
def half (x : Nat) : Nat := (double.div x 4611686018427387904).getD 0
def plus (x y : Nat) : Nat := (double.add x y).getD 0
theorem half_word {x : Nat} (hx : x < 2 ^ 64) (h : oneB x = true) : half x = double.word (negB x) (hR (x % 2 ^ 63)) ∧ double.div x 4611686018427387904 = some (half x) := by
  have h1 := div_two (negB x) (one_rung h)
  rw [word_of hx] at h1
  unfold half
  rw [h1]
  exact ⟨rfl, rfl⟩
theorem plus_of {x y : Nat} (hx : x < 2 ^ 64) (hy : y < 2 ^ 64) (h1 : oneB x = true) (h2 : oneB y = true) : double.add (half x) (half y) = some (plus (half x) (half y)) := by
  have a := add_word (negB x) (negB y) (R := hR (x % 2 ^ 63)) (T := hR (y % 2 ^ 63)) (by have := hR_le (one_rung h1); omega) (by have := hR_le (one_rung h2); omega)
  rw [← (half_word hx h1).1, ← (half_word hy h2).1] at a
  unfold plus
  rw [a]
  rfl
/-- The median of a sorted list. -/
def medL (S : List Nat) : Nat := if S.length = 0 then 0 else if S.length % 2 = 1 then S.getD (S.length / 2) 0 else plus (half (S.getD (S.length / 2 - 1) 0)) (half (S.getD (S.length / 2) 0))
theorem getD_mem {L : List Nat} {k : Nat} (h : k < L.length) : L.getD k 0 ∈ L := by
  rw [List.getD_eq_getElem?_getD, List.getElem?_eq_getElem h]; exact List.getElem_mem h
theorem median_any (p : Option Addr) (n c : Nat) (L : List Nat) (w : World) (hn : n = L.length) (hp : FL w p L) (hw : W64 L) (hsz : n * 8 ≤ 140737488355328) :
    Calls Try.prog 45 #[.slice p n c] w fun e w' => e = .returned (.tuple #[.float .f64 (medL (srt L)), .bool (decide (0 < (srt L).length))]) ∧ Below w.heap.size w w' := by
  have H := hide_ (sorted_any p n c L w hn hp hw hsz)
  have hb : (srt L).length ≤ 140737488355328 := by have := srt_le L; omega
  have hS : Hid (∀ k, k < (srt L).length → (srt L).getD k 0 < 2 ^ 64 ∧ oneB ((srt L).getD k 0) = true) := hide_ (fun k hk => ⟨hw _ (srt_mem.1 (getD_mem hk)).1, (srt_mem.1 (getD_mem hk)).2⟩)
  generalize srt L = S at *
  clear hn hp hw
  rcases Nat.eq_zero_or_pos S.length with h0 | h0
  · have hm : medL S = 0 := if_pos h0
    rw [hm]
    rw [h0] at H ⊢
    clear hm h0 hb hS
    go_enter Try.func45, Try.ntmps45
    go_wp2_with (go_at_call 83; (with_reducible refine (H.out).mono ?_); rintro e w1 ⟨⟨q, c', rfl, hf⟩, hb1⟩)
    go_ret2
    exact ⟨rfl, hb1⟩
  · rw [decide_eq_true h0]
    rcases Nat.mod_two_eq_zero_or_one S.length with h2 | h2
    · obtain ⟨k, hk⟩ : ∃ k, S.length = 2 * (k + 1) := ⟨S.length / 2 - 1, by omega⟩
      have hm : medL S = plus (half (S.getD k 0)) (half (S.getD (k + 1) 0)) := by
        unfold medL
        rw [if_neg (by omega), if_neg (by omega), show S.length / 2 - 1 = k by omega, show S.length / 2 = k + 1 by omega]
      rw [hm]
      obtain ⟨a1, a2⟩ := hS.out k (by omega)
      obtain ⟨b1, b2⟩ := hS.out (k + 1) (by omega)
      have e1 := fun wx => run_float_arith (P := Try.prog) wx .quo 24 .f64 (S.getD k 0) 4611686018427387904 _ (half_word a1 a2).2
      have e2 := fun wx => run_float_arith (P := Try.prog) wx .quo 24 .f64 (S.getD (k + 1) 0) 4611686018427387904 _ (half_word b1 b2).2
      have e3 := fun wx => run_float_arith (P := Try.prog) wx .add 24 .f64 _ _ _ (plus_of a1 b1 a2 b2)
      generalize plus (half (S.getD k 0)) (half (S.getD (k + 1) 0)) = r at *
      generalize half (S.getD k 0) = x at *
      generalize half (S.getD (k + 1) 0) = y at *
      have HC : Hid (∀ (w : World) q, FL w q S → ∃ g o, q = some ⟨g, o, none⟩ ∧ g < w.heap.size ∧ w.cell? ⟨g, o + k, none⟩ = some (.float .f64 (S.getD k 0)) ∧ w.cell? ⟨g, o + (k + 1), none⟩ = some (.float .f64 (S.getD (k + 1) 0))) := hide_ (fun w q h => by
        obtain ⟨g, o, h1, h2, h3⟩ := h.some_ h0
        exact ⟨g, o, h1, h2, h3 k (by omega), h3 (k + 1) (by omega)⟩)
      generalize S.getD k 0 = u at *
      generalize S.getD (k + 1) 0 = v at *
      obtain ⟨j, hj⟩ : ∃ j, j = k + 1 := ⟨_, rfl⟩
      rw [← hj] at hk HC
      have i0 : ((S.length : Nat) : Int) / 2 = (j : Int) := by omega
      have i1 : ((S.length : Nat) : Int) % 2 = 0 := by omega
      have i2 : (j : Int) - 1 = (k : Int) := by omega
      have i3 : (k : Int) < ((S.length : Nat) : Int) := by omega
      have i4 : (j : Int) < ((S.length : Nat) : Int) := by omega
      have i5 : ((S.length : Nat) : Int).tdiv 2 = (j : Int) := by rw [Int.tdiv_eq_ediv_of_nonneg (by omega)]; exact i0
      have i6 : IntKind.i64.wrap ((j : Int) - 1) = (k : Int) := by rw [i2]; exact IntWalk.i64_in _ (by omega)
      have i7 : (0 : Int) ≤ (k : Int) := by omega
      have i8 : (0 : Int) ≤ (j : Int) := by omega
      have i9 : k < S.length := by omega
      have i10 : j < S.length := by omega
      have i11 : (((S.length : Nat) : Int) == 0) = false := by rw [beq_eq_false_iff_ne]; omega
      clear hm hS a1 a2 b1 b2 hk h0 h2 hj
      generalize S.length = m at *
      go_enter Try.func45, Try.ntmps45
      go_wp2_with (go_at_call 83; (with_reducible refine (H.out).mono ?_); rintro e w1 ⟨⟨q, c', rfl, hf⟩, hb1⟩; obtain ⟨g, o, rfl, hg, c1, c2⟩ := HC.out _ _ hf)
      go_quiet (fail)
      go_wp2
      go_ret2
      exact ⟨rfl, below_drewN hb1 _⟩
    · obtain ⟨j, hk⟩ : ∃ j, S.length = 2 * j + 1 := ⟨S.length / 2, by omega⟩
      have hm : medL S = S.getD j 0 := by
        unfold medL
        rw [if_neg (by omega), if_pos h2, show S.length / 2 = j by omega]
      rw [hm]
      have HC : Hid (∀ (w : World) q, FL w q S → ∃ g o, q = some ⟨g, o, none⟩ ∧ g < w.heap.size ∧ w.cell? ⟨g, o + j, none⟩ = some (.float .f64 (S.getD j 0))) := hide_ (fun w q h => by
        obtain ⟨g, o, h1, h2, h3⟩ := h.some_ h0
        exact ⟨g, o, h1, h2, h3 j (by omega)⟩)
      generalize S.getD j 0 = v at *
      have i0 : ((S.length : Nat) : Int) / 2 = (j : Int) := by omega
      have i1 : ((S.length : Nat) : Int) % 2 = 1 := by omega
      have i4 : (j : Int) < ((S.length : Nat) : Int) := by omega
      have i8 : (0 : Int) ≤ (j : Int) := by omega
      have i10 : j < S.length := by omega
      have i11 : (((S.length : Nat) : Int) == 0) = false := by rw [beq_eq_false_iff_ne]; omega
      clear hm hS hk h0 h2
      generalize S.length = m at *
      go_enter Try.func45, Try.ntmps45
      go_wp2_with (go_at_call 83; (with_reducible refine (H.out).mono ?_); rintro e w1 ⟨⟨q, c', rfl, hf⟩, hb1⟩; obtain ⟨g, o, rfl, hg, c2⟩ := HC.out _ _ hf)
      go_ret2
      exact ⟨rfl, hb1⟩
end Go.Proofs.Ytlgnidjkilbdfaa
