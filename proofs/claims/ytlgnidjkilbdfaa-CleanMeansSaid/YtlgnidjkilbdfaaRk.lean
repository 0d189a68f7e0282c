/- Chapter 20: the rank of a height: the order of heights is the order of whole numbers; the sorted list. -/
import Derived.Test.YtlgnidjkilbdfaaCf4
import Derived.Test.YtlgnidjkilbdfaaFl3
namespace Go.Proofs.Ytlgnidjkilbdfaa
open Go.RowKit Ieee
set_option linter.unusedVariables false
set_option maxRecDepth 100000
theorem valR_succ (R : Nat) : valR R < valR (R + 1) := by
  by_cases h : R + 1 < 2 ^ 53
  · rw [valR_low (by omega), valR_low h]; omega
  · have h1 := valR_bin (R := R) (by omega)
    have h2 := valR_bin (R := R + 1) (by omega)
    by_cases hd : (R + 1) / 2 ^ 52 = R / 2 ^ 52
    · unfold valR
      rw [if_neg (by omega), if_neg (by omega), hd]
      exact Nat.mul_lt_mul_of_pos_right (by omega) (Nat.two_pow_pos _)
    · have : R / 2 ^ 52 + 52 ≤ (R + 1) / 2 ^ 52 + 51 := by omega
      have := Nat.pow_le_pow_right (n := 2) (by decide) this
      omega
theorem valR_lt {A B : Nat} (h : A < B) : valR A < valR B := Nat.lt_of_lt_of_le (valR_succ A) (valR_mono h)
/-- The value of a word, in units of the least number. -/
def valW (x : Nat) : Int := if negB x then -(valR (x % 2 ^ 63) : Int) else valR (x % 2 ^ 63)
theorem word_of {x : Nat} (hx : x < 2 ^ 64) : double.word (negB x) (x % 2 ^ 63) = x := by
  unfold negB
  by_cases h : 2 ^ 63 ≤ x
  · rw [decide_eq_true h, word_true (by omega)]; omega
  · rw [decide_eq_false h, word_false]; omega
theorem fin_one {x : Nat} (hx : x < 2 ^ 64) (h : oneB x = true) : Fin64 x (valW x) := by
  have := fin_word (neg := negB x) (one_rung h)
  rw [word_of hx] at this
  exact this
/-- The rank of a height: by value, -0 ahead of +0. -/
def rkW (x : Nat) : Int := if negB x then -((x % 2 ^ 63 : Nat) : Int) - 1 else ((x % 2 ^ 63 : Nat) : Int)
theorem rk_inj {x y : Nat} (hx : x < 2 ^ 64) (hy : y < 2 ^ 64) (h : rkW x = rkW y) : x = y := by
  unfold rkW negB at h
  by_cases h1 : 2 ^ 63 ≤ x <;> by_cases h2 : 2 ^ 63 ≤ y <;> simp only [h1, h2, decide_true, decide_false, if_true, Bool.false_eq_true, if_false] at h <;> omega
theorem cmp_lt {a b : Int} (h : a < b) : compare a b = .lt := (Int.compare_eq_lt).2 h
theorem cmp_gt {a b : Int} (h : b < a) : compare a b = .gt := (Int.compare_eq_gt).2 h
theorem cmp_eq (a : Int) : compare a a = .eq := (Int.compare_eq_eq).2 rfl
theorem ord_key {x y : Nat} {a b c d : Int} (o e : Ordering) (h1 : compare a b = o) (h2 : compare c d = e) (h : ordO x y o = e) : ordO x y (compare a b) = compare c d := by rw [h1, h2]; exact h
theorem ord_eq {x y : Nat} (p q : Bool) (hp : negB x = p) (hq : negB y = q) : ordO x y .eq = compare (if p = true then (0 : Int) else 1) (if q = true then 0 else 1) := by subst hp; subst hq; rfl
theorem ord_rk {x y : Nat} : ordO x y (compare (valW x) (valW y)) = compare (rkW x) (rkW y) := by
  have ho := fun p q => ord_eq (x := x) (y := y) p q
  unfold valW rkW
  generalize x % 2 ^ 63 = X
  generalize y % 2 ^ 63 = Y
  have p1 : valR 0 = 0 := valR_low (by decide)
  have hpos : ∀ R : Nat, 0 < R → 0 < valR R := fun R h => by have := valR_lt h; omega
  have tri : X < Y ∧ valR X < valR Y ∨ X = Y ∨ Y < X ∧ valR Y < valR X := by
    rcases Nat.lt_trichotomy X Y with h | h | h
    · exact .inl ⟨h, valR_lt h⟩
    · exact .inr (.inl h)
    · exact .inr (.inr ⟨h, valR_lt h⟩)
  have hz : 0 < X + Y → 0 < valR X + valR Y := fun h => by
    rcases Nat.eq_zero_or_pos X with h0 | h0
    · have := hpos Y (by omega); omega
    · have := hpos X h0; omega
  cases hx : negB x <;> cases hy : negB y <;> simp only [if_true, Bool.false_eq_true, if_false]
  · rcases tri with ⟨h, h'⟩ | rfl | ⟨h, h'⟩
    · refine ord_key .lt .lt (cmp_lt ?_) (cmp_lt ?_) rfl <;> omega
    · exact ord_key .eq .eq (cmp_eq _) (cmp_eq _) ((ho _ _ hx hy).trans rfl)
    · refine ord_key .gt .gt (cmp_gt ?_) (cmp_gt ?_) rfl <;> omega
  · rcases Nat.eq_zero_or_pos (X + Y) with h | h
    · obtain rfl : X = 0 := by omega
      obtain rfl : Y = 0 := by omega
      rw [p1]
      exact ord_key .eq .gt rfl rfl ((ho _ _ hx hy).trans rfl)
    · have := hz h
      refine ord_key .gt .gt (cmp_gt ?_) (cmp_gt ?_) rfl <;> omega
  · rcases Nat.eq_zero_or_pos (X + Y) with h | h
    · obtain rfl : X = 0 := by omega
      obtain rfl : Y = 0 := by omega
      rw [p1]
      exact ord_key .eq .lt rfl rfl ((ho _ _ hx hy).trans rfl)
    · have := hz h
      refine ord_key .lt .lt (cmp_lt ?_) (cmp_lt ?_) rfl <;> omega
  · rcases tri with ⟨h, h'⟩ | rfl | ⟨h, h'⟩
    · refine ord_key .gt .gt (cmp_gt ?_) (cmp_gt ?_) rfl <;> omega
    · exact ord_key .eq .eq (cmp_eq _) (cmp_eq _) ((ho _ _ hx hy).trans rfl)
    · refine ord_key .lt .lt (cmp_lt ?_) (cmp_lt ?_) rfl <;> omega
theorem order_rk (x y : Nat) (hx : x < 2 ^ 64) (hy : y < 2 ^ 64) (h1 : oneB x = true) (h2 : oneB y = true) (w : World) :
    Calls Try.prog 113 #[.float .f64 x, .float .f64 y] w fun e w' => e = .returned (.int .i64 (cmpI (compare (rkW x) (rkW y)))) ∧ w = w' := by
  have h := order_of x y hx hy (one_nan h1) (one_nan h2) _ (order_fin (fin_one hx h1) (fin_one hy h2)) w
  rw [ord_rk] at h
  exact h
/-- The finite ones, sorted. -/
def srt (L : List Nat) : List Nat := (L.filter oneB).mergeSort (fun x y => decide (rkW x ≤ rkW y))
def W64 (L : List Nat) : Prop := ∀ x ∈ L, x < 2 ^ 64
theorem srt_mem {L : List Nat} {x : Nat} : x ∈ srt L ↔ x ∈ L ∧ oneB x = true := by
  unfold srt
  rw [List.mem_mergeSort, List.mem_filter]
theorem srt_perm (L : List Nat) : (srt L).Perm (L.filter oneB) := List.mergeSort_perm _ _
theorem srt_len (L : List Nat) : (srt L).length = (L.filter oneB).length := (srt_perm L).length_eq
theorem srt_le (L : List Nat) : (srt L).length ≤ L.length := by rw [srt_len]; exact List.length_filter_le _ _
theorem srt_sorted (L : List Nat) : (srt L).Pairwise (fun x y => rkW x ≤ rkW y) := by
  have h := List.pairwise_mergeSort (le := fun x y => decide (rkW x ≤ rkW y)) (fun a b c h1 h2 => by simp at *; omega) (fun a b => by simp; omega) (L.filter oneB)
  exact h.imp (fun h => by simpa using h)
theorem sorted_unique : ∀ {A B : List Nat}, A.Perm B → W64 A → A.Pairwise (fun x y => rkW x ≤ rkW y) → B.Pairwise (fun x y => rkW x ≤ rkW y) → A = B := by
  intro A B hp hw ha hb
  exact List.Perm.eq_of_pairwise (le := fun x y => rkW x ≤ rkW y) (fun x y hx hy h1 h2 => rk_inj (hw x hx) (hw y (hp.mem_iff.2 hy)) (by omega)) ha hb hp
theorem srt_w64 {L : List Nat} (h : W64 L) : W64 (srt L) := fun x hx => h x (srt_mem.1 hx).1
theorem srt_eq {L B : List Nat} (h : W64 L) (hp : B.Perm (L.filter oneB)) (hs : B.Pairwise (fun x y => rkW x ≤ rkW y)) : B = srt L :=
  (sorted_unique ((srt_perm L).trans hp.symm) (srt_w64 h) (srt_sorted L) hs).symm
theorem srt_congr {L M : List Nat} (h : W64 L) (hp : M.Perm L) : srt M = srt L := srt_eq h ((srt_perm M).trans (hp.filter _)) (srt_sorted M)
end Go.Proofs.Ytlgnidjkilbdfaa
