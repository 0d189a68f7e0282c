/- Chapter 20, texts joined: Chapter 20: is a height finite. Chapter 20: the sign of a height. Chapter 20: cmp.Compare at heights that are no NaN. Chapter 20: the order of heights. Chapter 20: the rank of a height: the order of heights is the order of whole numbers; the sorted list. Chapter 20: half of a height, sums, and their negatives, by sign and rung. No program walked. -/
import Derived.Test.YtlgnidjkilbdfaaAbs
import Derived.Test.YtlgnidjkilbdfaaFl3
namespace Go.Proofs.Ytlgnidjkilbdfaa
open Go.RowKit Ieee
set_option linter.unusedVariables false
set_option maxRecDepth 100000
theorem read_inf {x : Nat} {s : Bool} (hr : double.read x = .infinity s) : x % 2 ^ 63 = 2047 * 2 ^ 52 := by
  have hb : double.binade = 2 ^ 52 := rfl
  have hi : double.infRung = 2047 * 2 ^ 52 := by decide
  have hs : double.signWeight = 2 ^ 63 := by decide
  unfold Format.read at hr
  simp only [hb, hi, hs] at hr
  repeat' split at hr
  all_goals first
    | cases hr
    | omega
  all_goals omega
theorem read_nan2 {x : Nat} {s : Bool} {f : Nat} (hr : double.read x = .nan s f) : 2047 * 2 ^ 52 < x % 2 ^ 63 := by
  have hb : double.binade = 2 ^ 52 := rfl
  have hi : double.infRung = 2047 * 2 ^ 52 := by decide
  have hs : double.signWeight = 2 ^ 63 := by decide
  unfold Format.read at hr
  simp only [hb, hi, hs] at hr
  repeat' split at hr
  all_goals first
    | cases hr
    | omega
  all_goals omega
theorem abs_gt (x : Nat) : (FloatKind.f64.format.order (x % 2 ^ 63) 9218868437227405311 == some .gt) = (!oneB x && !nanB x) := by
  cases hr : double.read x with
  | number s m i =>
    have h1 : oneB x = true := by unfold oneB; rw [hr]
    rw [h1]
    simp only [Bool.not_true, Bool.false_and]
    rw [beq_eq_false_iff_ne]
    exact abs_max h1
  | infinity s =>
    have h1 : oneB x = false := by unfold oneB; rw [hr]
    have h2 : nanB x = false := by unfold nanB; rw [hr]
    rw [h1, h2, read_inf hr]
    decide +kernel
  | nan s f =>
    have h1 : nanB x = true := by unfold nanB; rw [hr]
    have h2 : nanB (x % 2 ^ 63) = true := nan_of _ (x % 2 ^ 63) (by omega) (read_nan2 hr)
    rw [h1, show FloatKind.f64.format.order (x % 2 ^ 63) 9218868437227405311 = double.order (x % 2 ^ 63) 9218868437227405311 from rfl, nan_order h2]
    simp
theorem isinf_any (x : Nat) (hx : x < 2 ^ 64) (w : World) : Calls Try.prog 40 #[.float .f64 x, .int .i64 0] w fun e w' => e = .returned (.bool (!oneB x && !nanB x)) ∧ w = w' := by
  have HA := hide_ (abs_any x hx)
  have hg := abs_gt x
  generalize x % 2 ^ 63 = y at *
  generalize (!oneB x && !nanB x) = r at *
  clear hx
  cases r
  all_goals go_enter Try.func40, Try.ntmps40
  all_goals go_wp2_with (go_at_call 82; (with_reducible refine (HA.out _).mono ?_); rintro e w1 ⟨rfl, rfl⟩)
  all_goals go_ret
  all_goals exact ⟨rfl, rfl⟩
theorem finite_any (x : Nat) (hx : x < 2 ^ 64) (w : World) : Calls Try.prog 86 #[.float .f64 x] w fun e w' => e = .returned (.bool (oneB x)) ∧ w = w' := by
  have HI := hide_ (isinf_any x hx)
  have HN := hide_ (isnan_any x)
  have h1 := one_nan (x := x)
  generalize oneB x = p at *
  generalize nanB x = q at *
  clear hx
  cases p <;> cases q
  all_goals first
    | (exact absurd (h1 rfl) (by decide))
    | (clear h1
       go_enter Try.func86, Try.ntmps86
       go_wp2_with (first
         | (go_at_call 40; (with_reducible refine (HI.out _).mono ?_); rintro e w1 ⟨rfl, rfl⟩)
         | (go_at_call 39; (with_reducible refine (HN.out _).mono ?_); rintro e w1 ⟨rfl, rfl⟩))
       go_ret
       exact ⟨rfl, rfl⟩)
end Go.Proofs.Ytlgnidjkilbdfaa

namespace Go.Proofs.Ytlgnidjkilbdfaa
open Go.RowKit Ieee
set_option linter.unusedVariables false
set_option maxRecDepth 100000
def negB (x : Nat) : Bool := decide (2 ^ 63 ≤ x)
theorem signbit_any (x : Nat) (hx : x < 2 ^ 64) (w : World) : Calls Try.prog 126 #[.float .f64 x] w fun e w' => e = .returned (.bool (negB x)) ∧ w = w' := by
  have g1 := run_bits
  unfold negB
  by_cases h : 2 ^ 63 ≤ x
  · have hw : IntKind.i64.wrap (x : Int) = (x : Int) - 18446744073709551616 := by
      have hb : IntKind.i64.bits = 64 := rfl
      unfold IntKind.wrap
      simp only [hb, show IntKind.i64.signed = true from rfl]
      rw [if_pos (by simp; omega)]
      omega
    rw [decide_eq_true h]
    have hd : (x : Int) - 18446744073709551616 < 0 := by omega
    go_enter Try.func126, Try.ntmps126
    go_wp2
    go_ret
    exact ⟨by first | rfl | (show Ending.returned (.bool (decide ((x : Int) - 18446744073709551616 < 0))) = _; rw [decide_eq_true hd]), rfl⟩
  · have hw : IntKind.i64.wrap (x : Int) = (x : Int) := by
      have hb : IntKind.i64.bits = 64 := rfl
      unfold IntKind.wrap
      simp only [hb, show IntKind.i64.signed = true from rfl]
      rw [if_neg (by simp; omega)]
      omega
    rw [decide_eq_false h]
    have hd : ¬ (x : Int) < 0 := by omega
    go_enter Try.func126, Try.ntmps126
    go_wp2
    go_ret
    exact ⟨by first | rfl | (show Ending.returned (.bool (decide ((x : Int) < 0))) = _; rw [decide_eq_false hd]), rfl⟩
theorem sign_any (x : Nat) (hx : x < 2 ^ 64) (w : World) : Calls Try.prog 124 #[.float .f64 x] w fun e w' => e = .returned (.int .i64 (if negB x then 0 else 1)) ∧ w = w' := by
  have HS := hide_ (signbit_any x hx)
  generalize negB x = p at *
  clear hx
  cases p
  all_goals go_enter Try.func124, Try.ntmps124
  all_goals go_wp2_with (go_at_call 126; (with_reducible refine (HS.out _).mono ?_); rintro e w1 ⟨rfl, rfl⟩)
  all_goals go_ret
  all_goals exact ⟨rfl, rfl⟩
end Go.Proofs.Ytlgnidjkilbdfaa

namespace Go.Proofs.Ytlgnidjkilbdfaa
open Go.RowKit Ieee
set_option linter.unusedVariables false
set_option maxRecDepth 100000
theorem isnan140 (x : Nat) (w : World) : Calls Try.prog 140 #[.float .f64 x] w fun e w' => e = .returned (.bool (nanB x)) ∧ w = w' := by
  have g := ne_self x
  cases h : nanB x <;> rw [h] at g <;> clear h
  all_goals go_enter Try.func140, Try.ntmps140
  all_goals go_wp2
  all_goals go_ret
  all_goals exact ⟨rfl, rfl⟩
def cmpI (o : Ordering) : Int := match o with | .lt => -1 | .eq => 0 | .gt => 1
theorem compare_of (x y : Nat) (hx : nanB x = false) (hy : nanB y = false) (o : Ordering) (ho : double.order x y = some o) (w : World) : Calls Try.prog 125 #[.float .f64 x, .float .f64 y] w fun e w' => e = .returned (.int .i64 (cmpI o)) ∧ w = w' := by
  have H := hide_ isnan140
  have hX := hide_ (fun w => by have h := isnan140 x w; rw [hx] at h; exact h)
  have hY := hide_ (fun w => by have h := isnan140 y w; rw [hy] at h; exact h)
  have hl : (FloatKind.f64.format.order x y == some .lt) = (o == .lt) := by rw [show FloatKind.f64.format.order x y = double.order x y from rfl, ho]; cases o <;> rfl
  have hg : (FloatKind.f64.format.order x y == some .gt) = (o == .gt) := by rw [show FloatKind.f64.format.order x y = double.order x y from rfl, ho]; cases o <;> rfl
  clear ho hx hy H
  have tok : True := trivial
  cases o
  all_goals simp only [cmpI]
  all_goals go_enter Try.func125, Try.ntmps125
  all_goals go_wp2_with (first
    | (go_at_call 140; have _t := tok; (with_reducible refine (hX.out _).mono ?_); rintro e w1 ⟨rfl, rfl⟩; clear tok)
    | (go_at_call 140; (with_reducible refine (hY.out _).mono ?_); rintro e w1 ⟨rfl, rfl⟩))
  all_goals go_ret
  all_goals exact ⟨rfl, rfl⟩
end Go.Proofs.Ytlgnidjkilbdfaa

namespace Go.Proofs.Ytlgnidjkilbdfaa
open Go.RowKit Ieee
set_option linter.unusedVariables false
set_option maxRecDepth 100000
theorem isnan139 (x : Int) (w : World) : Calls Try.prog 139 #[.int .i64 x] w fun e w' => e = .returned (.bool false) ∧ w = w' := by
  have ht : (x != x) = false := by simp
  go_enter Try.func139, Try.ntmps139
  go_wp2
  go_ret
  exact ⟨by first | rfl | simp, rfl⟩
theorem compare_int (x y : Int) (w : World) : Calls Try.prog 123 #[.int .i64 x, .int .i64 y] w fun e w' => e = .returned (.int .i64 (cmpI (compare x y))) ∧ w = w' := by
  have H := hide_ isnan139
  have hc : cmpI (compare x y) = if x < y then -1 else if y < x then 1 else 0 := by
    rcases Int.lt_trichotomy x y with h | h | h
    · rw [if_pos h, (Int.compare_eq_lt).2 h]; rfl
    · rw [if_neg (by omega), if_neg (by omega), (Int.compare_eq_eq).2 h]; rfl
    · rw [if_neg (by omega), if_pos h, (Int.compare_eq_gt).2 h]; rfl
  rw [hc]
  clear hc
  by_cases h1 : x < y
  · rw [if_pos h1]
    go_enter Try.func123, Try.ntmps123
    go_wp2_with (go_at_call 139; (with_reducible refine (H.out _ _).mono ?_); rintro e w1 ⟨rfl, rfl⟩)
    go_ret
    exact ⟨rfl, rfl⟩
  · rw [if_neg h1]
    by_cases h2 : y < x
    · rw [if_pos h2]
      go_enter Try.func123, Try.ntmps123
      go_wp2_with (go_at_call 139; (with_reducible refine (H.out _ _).mono ?_); rintro e w1 ⟨rfl, rfl⟩)
      go_ret
      exact ⟨rfl, rfl⟩
    · rw [if_neg h2]
      go_enter Try.func123, Try.ntmps123
      go_wp2_with (go_at_call 139; (with_reducible refine (H.out _ _).mono ?_); rintro e w1 ⟨rfl, rfl⟩)
      go_ret
      exact ⟨rfl, rfl⟩
/-- The order of two heights that are no NaN. -/
def ordO (x y : Nat) (o : Ordering) : Ordering := match o with | .eq => compare (if negB x then (0 : Int) else 1) (if negB y then 0 else 1) | o => o
theorem order_of (x y : Nat) (hx64 : x < 2 ^ 64) (hy64 : y < 2 ^ 64) (hx : nanB x = false) (hy : nanB y = false) (o : Ordering) (ho : double.order x y = some o) (w : World) : Calls Try.prog 113 #[.float .f64 x, .float .f64 y] w fun e w' => e = .returned (.int .i64 (cmpI (ordO x y o))) ∧ w = w' := by
  have HC := hide_ (compare_of x y hx hy o ho)
  have HX := hide_ (sign_any x hx64)
  have HY := hide_ (sign_any y hy64)
  have he : (FloatKind.f64.format.order x y == some .eq) = (o == .eq) := by rw [show FloatKind.f64.format.order x y = double.order x y from rfl, ho]; cases o <;> rfl
  have HI := hide_ compare_int
  unfold ordO
  generalize (if negB x = true then (0 : Int) else 1) = p at *
  generalize (if negB y = true then (0 : Int) else 1) = q at *
  clear ho hx hy hx64 hy64
  have tok : True := trivial
  cases o
  all_goals simp only []
  all_goals go_enter Try.func113, Try.ntmps113
  all_goals go_wp2_with (first
    | (go_at_call 124; have _t := tok; (with_reducible refine (HX.out _).mono ?_); rintro e w1 ⟨rfl, rfl⟩; clear tok)
    | (go_at_call 124; (with_reducible refine (HY.out _).mono ?_); rintro e w1 ⟨rfl, rfl⟩)
    | (go_at_call 123; (with_reducible refine (HI.out _ _ _).mono ?_); rintro e w1 ⟨rfl, rfl⟩)
    | (go_at_call 125; (with_reducible refine (HC.out _).mono ?_); rintro e w1 ⟨rfl, rfl⟩))
  all_goals go_ret
  all_goals exact ⟨rfl, rfl⟩
end Go.Proofs.Ytlgnidjkilbdfaa

namespace Go.Proofs.Ytlgnidjkilbdfaa
open Go.RowKit Ieee
set_option linter.unusedVariables false
set_option maxRecDepth 100000
theorem valR_succ (R : Nat) : valR R < valR (R + 1) := by
  by_cases h : R + 1 < 2 ^ 53
  · rw [valR_low (by omega), valR_low h]; omega
  · have h1 := valR_bin (R := R) (by omega)
    have h2 := valR_bin (R := R + 1) (by omega)
    by_cases hd : (R + 1) / 2 ^ 52 = R / 2 ^ 52
    · unfold valR
      rw [if_neg (by omega), if_neg (by omega), hd]
      exact Nat.mul_lt_mul_of_pos_right (by omega) (Nat.two_pow_pos _)
    · have : R / 2 ^ 52 + 52 ≤ (R + 1) / 2 ^ 52 + 51 := by omega
      have := Nat.pow_le_pow_right (n := 2) (by decide) this
      omega
theorem valR_lt {A B : Nat} (h : A < B) : valR A < valR B := Nat.lt_of_lt_of_le (valR_succ A) (valR_mono h)
/-- The value of a word, in units of the least number. -/
def valW (x : Nat) : Int := if negB x then -(valR (x % 2 ^ 63) : Int) else valR (x % 2 ^ 63)
theorem word_of {x : Nat} (hx : x < 2 ^ 64) : double.word (negB x) (x % 2 ^ 63) = x := by
  unfold negB
  by_cases h : 2 ^ 63 ≤ x
  · rw [decide_eq_true h, word_true (by omega)]; omega
  · rw [decide_eq_false h, word_false]; omega
theorem fin_one {x : Nat} (hx : x < 2 ^ 64) (h : oneB x = true) : Fin64 x (valW x) := by
  have := fin_word (neg := negB x) (one_rung h)
  rw [word_of hx] at this
  exact this
/-- The rank of a height: by value, -0 ahead of +0. -/
def rkW (x : Nat) : Int := if negB x then -((x % 2 ^ 63 : Nat) : Int) - 1 else ((x % 2 ^ 63 : Nat) : Int)
theorem rk_inj {x y : Nat} (hx : x < 2 ^ 64) (hy : y < 2 ^ 64) (h : rkW x = rkW y) : x = y := by
  unfold rkW negB at h
  by_cases h1 : 2 ^ 63 ≤ x <;> by_cases h2 : 2 ^ 63 ≤ y <;> simp only [h1, h2, decide_true, decide_false, if_true, Bool.false_eq_true, if_false] at h <;> omega
theorem cmp_lt {a b : Int} (h : a < b) : compare a b = .lt := (Int.compare_eq_lt).2 h
theorem cmp_gt {a b : Int} (h : b < a) : compare a b = .gt := (Int.compare_eq_gt).2 h
theorem cmp_eq (a : Int) : compare a a = .eq := (Int.compare_eq_eq).2 rfl
theorem ord_key {x y : Nat} {a b c d : Int} (o e : Ordering) (h1 : compare a b = o) (h2 : compare c d = e) (h : ordO x y o = e) : ordO x y (compare a b) = compare c d := by rw [h1, h2]; exact h
theorem ord_eq {x y : Nat} (p q : Bool) (hp : negB x = p) (hq : negB y = q) : ordO x y .eq = compare (if p = true then (0 : Int) else 1) (if q = true then 0 else 1) := by subst hp; subst hq; rfl
theorem ord_rk {x y : Nat} : ordO x y (compare (valW x) (valW y)) = compare (rkW x) (rkW y) := by
  have ho := fun p q => ord_eq (x := x) (y := y) p q
  unfold valW rkW
  generalize x % 2 ^ 63 = X
  generalize y % 2 ^ 63 = Y
  have p1 : valR 0 = 0 := valR_low (by decide)
  have hpos : ∀ R : Nat, 0 < R → 0 < valR R := fun R h => by have := valR_lt h; omega
  have tri : X < Y ∧ valR X < valR Y ∨ X = Y ∨ Y < X ∧ valR Y < valR X := by
    rcases Nat.lt_trichotomy X Y with h | h | h
    · exact .inl ⟨h, valR_lt h⟩
    · exact .inr (.inl h)
    · exact .inr (.inr ⟨h, valR_lt h⟩)
  have hz : 0 < X + Y → 0 < valR X + valR Y := fun h => by
    rcases Nat.eq_zero_or_pos X with h0 | h0
    · have := hpos Y (by omega); omega
    · have := hpos X h0; omega
  cases hx : negB x <;> cases hy : negB y <;> simp only [if_true, Bool.false_eq_true, if_false]
  · rcases tri with ⟨h, h'⟩ | rfl | ⟨h, h'⟩
    · refine ord_key .lt .lt (cmp_lt ?_) (cmp_lt ?_) rfl <;> omega
    · exact ord_key .eq .eq (cmp_eq _) (cmp_eq _) ((ho _ _ hx hy).trans rfl)
    · refine ord_key .gt .gt (cmp_gt ?_) (cmp_gt ?_) rfl <;> omega
  · rcases Nat.eq_zero_or_pos (X + Y) with h | h
    · obtain rfl : X = 0 := by omega
      obtain rfl : Y = 0 := by omega
      rw [p1]
      exact ord_key .eq .gt rfl rfl ((ho _ _ hx hy).trans rfl)
    · have := hz h
      refine ord_key .gt .gt (cmp_gt ?_) (cmp_gt ?_) rfl <;> omega
  · rcases Nat.eq_zero_or_pos (X + Y) with h | h
    · obtain rfl : X = 0 := by omega
      obtain rfl : Y = 0 := by omega
      rw [p1]
      exact ord_key .eq .lt rfl rfl ((ho _ _ hx hy).trans rfl)
    · have := hz h
      refine ord_key .lt .lt (cmp_lt ?_) (cmp_lt ?_) rfl <;> omega
  · rcases tri with ⟨h, h'⟩ | rfl | ⟨h, h'⟩
    · refine ord_key .gt .gt (cmp_gt ?_) (cmp_gt ?_) rfl <;> omega
    · exact ord_key .eq .eq (cmp_eq _) (cmp_eq _) ((ho _ _ hx hy).trans rfl)
    · refine ord_key .lt .lt (cmp_lt ?_) (cmp_lt ?_) rfl <;> omega
theorem order_rk (x y : Nat) (hx : x < 2 ^ 64) (hy : y < 2 ^ 64) (h1 : oneB x = true) (h2 : oneB y = true) (w : World) :
    Calls Try.prog 113 #[.float .f64 x, .float .f64 y] w fun e w' => e = .returned (.int .i64 (cmpI (compare (rkW x) (rkW y)))) ∧ w = w' := by
  have h := order_of x y hx hy (one_nan h1) (one_nan h2) _ (order_fin (fin_one hx h1) (fin_one hy h2)) w
  rw [ord_rk] at h
  exact h
/-- The finite ones, sorted. -/
def srt (L : List Nat) : List Nat := (L.filter oneB).mergeSort (fun x y => decide (rkW x ≤ rkW y))
def W64 (L : List Nat) : Prop := ∀ x ∈ L, x < 2 ^ 64
theorem srt_mem {L : List Nat} {x : Nat} : x ∈ srt L ↔ x ∈ L ∧ oneB x = true := by
  unfold srt
  rw [List.mem_mergeSort, List.mem_filter]
theorem srt_perm (L : List Nat) : (srt L).Perm (L.filter oneB) := List.mergeSort_perm _ _
theorem srt_len (L : List Nat) : (srt L).length = (L.filter oneB).length := (srt_perm L).length_eq
theorem srt_le (L : List Nat) : (srt L).length ≤ L.length := by rw [srt_len]; exact List.length_filter_le _ _
theorem srt_sorted (L : List Nat) : (srt L).Pairwise (fun x y => rkW x ≤ rkW y) := by
  have h := List.pairwise_mergeSort (le := fun x y => decide (rkW x ≤ rkW y)) (fun a b c h1 h2 => by simp at *; omega) (fun a b => by simp; omega) (L.filter oneB)
  exact h.imp (fun h => by simpa using h)
theorem sorted_unique : ∀ {A B : List Nat}, A.Perm B → W64 A → A.Pairwise (fun x y => rkW x ≤ rkW y) → B.Pairwise (fun x y => rkW x ≤ rkW y) → A = B := by
  intro A B hp hw ha hb
  exact List.Perm.eq_of_pairwise (le := fun x y => rkW x ≤ rkW y) (fun x y hx hy h1 h2 => rk_inj (hw x hx) (hw y (hp.mem_iff.2 hy)) (by omega)) ha hb hp
theorem srt_w64 {L : List Nat} (h : W64 L) : W64 (srt L) := fun x hx => h x (srt_mem.1 hx).1
theorem srt_eq {L B : List Nat} (h : W64 L) (hp : B.Perm (L.filter oneB)) (hs : B.Pairwise (fun x y => rkW x ≤ rkW y)) : B = srt L :=
  (sorted_unique ((srt_perm L).trans hp.symm) (srt_w64 h) (srt_sorted L) hs).symm
theorem srt_congr {L M : List Nat} (h : W64 L) (hp : M.Perm L) : srt M = srt L := srt_eq h ((srt_perm M).trans (hp.filter _)) (srt_sorted M)
end Go.Proofs.Ytlgnidjkilbdfaa

namespace Go.Proofs.Ytlgnidjkilbdfaa
open Ieee
set_option linter.unusedVariables false
set_option maxRecDepth 100000
def rm (R : Nat) : Nat := if R < 2 ^ 52 then R else 2 ^ 52 + R % 2 ^ 52
def rp (R : Nat) : Int := if R < 2 ^ 52 then -1074 else -1074 + (R / 2 ^ 52 - 1 : Nat)
theorem read_at (neg : Bool) {R : Nat} (h : R < 2047 * 2 ^ 52) : double.read (double.word neg R) = .number neg (rm R) (rp R) := by
  have hl : double.leastPlace = -1074 := by decide
  have hb : double.binade = 2 ^ 52 := rfl
  have hi : double.infRung = 2047 * 2 ^ 52 := by decide
  have hs : double.signWeight = 2 ^ 63 := by decide
  have hw : double.word neg R / 2 ^ 63 % 2 = neg.toNat ∧ double.word neg R % 2 ^ 63 = R := by
    cases neg
    · rw [word_false]; simp only [Bool.toNat_false]; omega
    · rw [word_true (by omega)]; simp only [Bool.toNat_true]; omega
  have hn : (neg.toNat == 1) = neg := by cases neg <;> rfl
  unfold Format.read rm rp
  simp only [hs, hb, hi, hl, hw.1, hw.2, hn]
  by_cases h1 : R < 2 ^ 52
  · rw [if_pos h1, if_pos h1, if_pos h1]
  · rw [if_neg h1, if_pos h, if_neg h1, if_neg h1]
theorem rm_val (R : Nat) : rm R * 2 ^ (rp R + 1074).toNat = valR R := by
  unfold rm rp valR
  by_cases h1 : R < 2 ^ 52
  · simp only [h1, if_true]; simp
  · simp only [h1, if_false]
    congr 2
    omega
theorem rm_lt (R : Nat) : rm R < 2 ^ 53 := by unfold rm; split <;> omega
theorem rp_ge (R : Nat) : -1074 ≤ rp R := by unfold rp; split <;> omega
theorem cut_neg (s : Bool) (n d : Nat) : Toward.even.cut s n d = Toward.even.cut false n d := by
  unfold Toward.cut
  rfl
theorem nearest_word (s : Bool) (mag : Nat) (p : Int) : double.nearest s mag p = double.word s (double.nearest false mag p) := by
  unfold Format.nearest
  by_cases h : mag = 0
  · rw [if_pos h, if_pos h, word_false]
  · rw [if_neg h, if_neg h, word_false]
    simp only [cut_neg s]
theorem read_two : double.read 4611686018427387904 = .number false (2 ^ 52) (-51) := by decide +kernel
def more (R : Nat) : Nat := 106 - (rm R).log2
def hR (R : Nat) : Nat := double.nearest false (2 * (rm R <<< more R / 2 ^ 52) + (rm R <<< more R % 2 ^ 52 != 0).toNat) (rp R - -51 - (more R : Nat) - 1)
theorem div_two (s : Bool) {R : Nat} (h : R < 2047 * 2 ^ 52) : double.div (double.word s R) 4611686018427387904 = some (double.word s (hR R)) := by
  have h2 : (2 ^ 52 : Nat).log2 = 52 := Nat.log2_two_pow
  have hf : double.fractionBits = 52 := rfl
  unfold Format.div
  rw [read_at s h, read_two]
  simp only [Datum.quotient, if_neg (show ¬ (2 ^ 52 : Nat) = 0 by decide), Option.map_some, Format.write, Bool.xor_false]
  rw [nearest_word, h2, hf]
  rfl
theorem log_rm (R : Nat) : (rm R).log2 ≤ 52 := by
  rcases Nat.eq_zero_or_pos (rm R) with h | h
  · rw [h]; decide
  · have := (Nat.log2_lt (by omega)).2 (rm_lt R)
    omega
theorem hR_between {R A B : Nat} (hB : B < 2047 * 2 ^ 52) (h1 : 2 * valR A ≤ valR R) (h2 : valR R ≤ 2 * valR B) : A ≤ hR R ∧ hR R ≤ B := by
  have hl := log_rm R
  have hp := rp_ge R
  obtain ⟨k, hk⟩ : ∃ k, more R = 52 + k := ⟨more R - 52, by unfold more; omega⟩
  have hd : rm R <<< more R = 2 ^ 52 * (rm R * 2 ^ k) := by rw [Nat.shiftLeft_eq, hk, Nat.pow_add]; ac_rfl
  have hg : 2 * (rm R <<< more R / 2 ^ 52) + (rm R <<< more R % 2 ^ 52 != 0).toNat = 2 * (rm R * 2 ^ k) := by
    rw [hd, Nat.mul_div_cancel_left _ (by decide), Nat.mul_mod_right]; rfl
  unfold hR
  rw [hg]
  have hv : 2 * (rm R * 2 ^ k) * 2 ^ ((rp R + 1074).toNat + 51) = valR R * 2 ^ (more R) := by
    rw [← rm_val R, hk, Nat.pow_add, Nat.pow_add, show (2 : Nat) ^ 52 = 2 * 2 ^ 51 from rfl]; ac_rfl
  obtain ⟨R', f1, f2, f3⟩ := nearest_between (neg := false) (mag := 2 * (rm R * 2 ^ k)) (p := rp R - -51 - (more R : Nat) - 1) (A := A) (B := B) (u := (rp R + 1074).toNat + 51) (s := more R + 1) hB (by omega)
    (by rw [hv, Nat.pow_succ]
        calc valR A * (2 ^ more R * 2) = (2 * valR A) * 2 ^ more R := by ac_rfl
          _ ≤ _ := Nat.mul_le_mul_right _ h1)
    (by rw [hv, Nat.pow_succ]
        calc valR R * 2 ^ more R ≤ (2 * valR B) * 2 ^ more R := Nat.mul_le_mul_right _ h2
          _ = _ := by ac_rfl)
  rw [f3]
  exact ⟨f1, f2⟩
theorem valR_dbl {R : Nat} (h : 2 ^ 52 ≤ R) : valR (R + 2 ^ 52) = 2 * valR R := by
  unfold valR
  rw [if_neg (by omega), if_neg (by omega)]
  obtain ⟨t, ht⟩ : ∃ t, R / 2 ^ 52 = t + 1 := ⟨R / 2 ^ 52 - 1, by omega⟩
  have e1 : (R + 2 ^ 52) / 2 ^ 52 = t + 2 := by omega
  have e2 : (R + 2 ^ 52) % 2 ^ 52 = R % 2 ^ 52 := by omega
  rw [e1, e2, ht, show t + 2 - 1 = t + 1 by omega, show t + 1 - 1 = t by omega, Nat.pow_add 2 t 1]
  generalize 2 ^ 52 + R % 2 ^ 52 = a
  generalize 2 ^ t = b
  rw [Nat.pow_one, ← Nat.mul_assoc, Nat.mul_comm (a * b) 2]
/-- Halves are no greater than half of the greatest. -/
theorem hR_le {R : Nat} (h : R < 2047 * 2 ^ 52) : hR R ≤ 2046 * 2 ^ 52 - 1 :=
  (hR_between (A := 0) (by omega) (by rw [valR_low (by decide)]; omega) (by rw [← valR_dbl (by decide)]; exact valR_mono (by omega))).2
theorem hR_exact {R : Nat} (h : R < 2047 * 2 ^ 52) (h2 : R = 0 ∨ 2 ^ 53 ≤ R) : 2 * valR (hR R) = valR R := by
  have z : valR 0 = 0 := valR_low (by decide)
  rcases h2 with rfl | h2
  · have := (hR_between (R := 0) (A := 0) (B := 0) (by decide) (by rw [z]; decide) (by rw [z]; decide)).2
    obtain h0 : hR 0 = 0 := by omega
    rw [h0, z]
  · obtain ⟨T, rfl⟩ : ∃ T, R = T + 2 ^ 52 := ⟨R - 2 ^ 52, by omega⟩
    have hd := valR_dbl (R := T) (by omega)
    have := hR_between (R := T + 2 ^ 52) (A := T) (B := T) (by omega) (by rw [hd]; exact Nat.le_refl _) (by rw [hd]; exact Nat.le_refl _)
    obtain e : hR (T + 2 ^ 52) = T := by omega
    rw [e, hd]
/-- The value of a sign and a rung. -/
def sv (s : Bool) (R : Nat) : Int := if s then -(valR R : Int) else valR R
def tot (s t : Bool) (R T : Nat) : Int := signed s (rm R) (rp R - min (rp R) (rp T)).toNat + signed t (rm T) (rp T - min (rp R) (rp T)).toNat
theorem sv_signed (s : Bool) (R : Nat) : sv s R = signed s (rm R) (rp R + 1074).toNat := by
  rw [signed_val, rm_val]; rfl
theorem tot_val (s t : Bool) (R T : Nat) : sv s R + sv t T = tot s t R T * 2 ^ (min (rp R) (rp T) + 1074).toNat := by
  have h1 := rp_ge R
  have h2 := rp_ge T
  rw [sv_signed, sv_signed]
  unfold tot
  rw [Int.add_mul, ← signed_scale, ← signed_scale]
  congr 2 <;> omega
def sumR (s t : Bool) (R T : Nat) : Nat := double.nearest false (tot s t R T).natAbs (min (rp R) (rp T))
theorem add_word (s t : Bool) {R T : Nat} (hR : R < 2047 * 2 ^ 52) (hT : T < 2047 * 2 ^ 52) :
    double.add (double.word s R) (double.word t T) = some (double.word (if tot s t R T = 0 then s && t else decide (tot s t R T < 0)) (sumR s t R T)) := by
  unfold Format.add
  rw [read_at s hR, read_at t hT]
  simp only [Datum.sum, Option.map_some, Format.write]
  rw [nearest_word]
  rfl
theorem tot_neg (s t : Bool) (R T : Nat) : tot (!t) (!s) T R = -tot s t R T := by
  unfold tot
  rw [Int.min_comm, signed_val, signed_val, signed_val, signed_val]
  cases s <;> cases t <;> simp <;> omega
theorem sumR_neg (s t : Bool) (R T : Nat) : sumR (!t) (!s) T R = sumR s t R T := by
  unfold sumR
  rw [tot_neg, Int.natAbs_neg, Int.min_comm]
theorem sumR_between {s t : Bool} {R T A B : Nat} (hB : B < 2047 * 2 ^ 52) (h1 : (valR A : Int) ≤ (sv s R + sv t T).natAbs) (h2 : ((sv s R + sv t T).natAbs : Int) ≤ valR B) : A ≤ sumR s t R T ∧ sumR s t R T ≤ B := by
  have g1 := rp_ge R
  have g2 := rp_ge T
  rw [tot_val, Int.natAbs_mul, Int.natAbs_pow] at h1 h2
  have e2 : Int.natAbs 2 = 2 := rfl
  rw [e2] at h1 h2
  obtain ⟨K, f1, f2, f3⟩ := nearest_between (neg := false) (mag := (tot s t R T).natAbs) (p := min (rp R) (rp T)) (A := A) (B := B) (u := (min (rp R) (rp T) + 1074).toNat) (s := 0) hB (by omega)
    (by rw [Nat.pow_zero, Nat.mul_one]; exact Int.ofNat_le.1 h1) (by rw [Nat.pow_zero, Nat.mul_one]; exact Int.ofNat_le.1 h2)
  unfold sumR
  rw [f3]
  exact ⟨f1, f2⟩
theorem tot_sign (s t : Bool) (R T : Nat) : (tot s t R T = 0 ↔ sv s R + sv t T = 0) ∧ (tot s t R T < 0 ↔ sv s R + sv t T < 0) := by
  rw [tot_val]
  have hp : (0 : Int) < 2 ^ (min (rp R) (rp T) + 1074).toNat := Int.pow_pos (by decide)
  generalize (2 : Int) ^ (min (rp R) (rp T) + 1074).toNat = K at *
  generalize tot s t R T = a
  rcases Int.lt_trichotomy a 0 with h | h | h
  · have := Int.mul_neg_of_neg_of_pos h hp; omega
  · subst h; simp
  · have := Int.mul_pos h hp; omega
end Go.Proofs.Ytlgnidjkilbdfaa
