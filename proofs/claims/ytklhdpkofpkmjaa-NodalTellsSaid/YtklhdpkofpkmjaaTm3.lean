/- Chapter 12: a name's row by its number; Times of any names. -/
import Derived.Test.YtklhdpkofpkmjaaTm2
namespace Go.Proofs.Ytklhdpkofpkmjaa
open Go.RowKit Ieee
set_option linter.unusedVariables false
set_option maxRecDepth 100000
/-- The number of a name's row; 7: it has none. -/
def rowIx (s : ByteArray) : Nat :=
  if s = ⟨#[77, 50]⟩ then 0 else
  if s = ⟨#[78, 50]⟩ then 0 else
  if s = ⟨#[83, 50]⟩ then 1 else
  if s = ⟨#[80, 49]⟩ then 1 else
  if s = ⟨#[75, 50]⟩ then 2 else
  if s = ⟨#[75, 49]⟩ then 3 else
  if s = ⟨#[79, 49]⟩ then 4 else
  if s = ⟨#[81, 49]⟩ then 4 else
  if s = ⟨#[77, 102]⟩ then 5 else
  if s = ⟨#[77, 109]⟩ then 6 else
  7
def isN (s : ByteArray) : Bool := decide (rowIx s < 7)
def sc0 (s : ByteArray) : Nat := if rowIx s < 7 then rc0 (rowIx s) else 0
def sc1 (s : ByteArray) : Nat := if rowIx s < 7 then rc1 (rowIx s) else 0
def sc2 (s : ByteArray) : Nat := if rowIx s < 7 then rc2 (rowIx s) else 0
theorem find_ix (s : ByteArray) :
    (∀ wx : World, Calls Try.prog 90 #[.string s] wx fun e w' => e = .returned (.tuple #[.agg #[.float .f64 (sc0 s), .float .f64 (sc1 s), .float .f64 (sc2 s)], .bool (isN s)]) ∧ Below wx.heap.size wx w') ∧
    (∀ wx : World, Calls Try.prog 92 #[.string s] wx fun e w' => e = .returned (.tuple #[.float .f64 (sc0 s), .float .f64 (sc1 s), .float .f64 (sc2 s), .bool (isN s)]) ∧ Below wx.heap.size wx w') := by
  by_cases h0 : s = ⟨#[77, 50]⟩
  · have hx : rowIx s = 0 := by subst h0; decide +kernel
    unfold sc0 sc1 sc2 isN
    rw [hx]
    subst h0
    exact find_M2
  by_cases h1 : s = ⟨#[78, 50]⟩
  · have hx : rowIx s = 0 := by subst h1; decide +kernel
    unfold sc0 sc1 sc2 isN
    rw [hx]
    subst h1
    exact find_N2
  by_cases h2 : s = ⟨#[83, 50]⟩
  · have hx : rowIx s = 1 := by subst h2; decide +kernel
    unfold sc0 sc1 sc2 isN
    rw [hx]
    subst h2
    exact find_S2
  by_cases h3 : s = ⟨#[80, 49]⟩
  · have hx : rowIx s = 1 := by subst h3; decide +kernel
    unfold sc0 sc1 sc2 isN
    rw [hx]
    subst h3
    exact find_P1
  by_cases h4 : s = ⟨#[75, 50]⟩
  · have hx : rowIx s = 2 := by subst h4; decide +kernel
    unfold sc0 sc1 sc2 isN
    rw [hx]
    subst h4
    exact find_K2
  by_cases h5 : s = ⟨#[75, 49]⟩
  · have hx : rowIx s = 3 := by subst h5; decide +kernel
    unfold sc0 sc1 sc2 isN
    rw [hx]
    subst h5
    exact find_K1
  by_cases h6 : s = ⟨#[79, 49]⟩
  · have hx : rowIx s = 4 := by subst h6; decide +kernel
    unfold sc0 sc1 sc2 isN
    rw [hx]
    subst h6
    exact find_O1
  by_cases h7 : s = ⟨#[81, 49]⟩
  · have hx : rowIx s = 4 := by subst h7; decide +kernel
    unfold sc0 sc1 sc2 isN
    rw [hx]
    subst h7
    exact find_Q1
  by_cases h8 : s = ⟨#[77, 102]⟩
  · have hx : rowIx s = 5 := by subst h8; decide +kernel
    unfold sc0 sc1 sc2 isN
    rw [hx]
    subst h8
    exact find_Mf
  by_cases h9 : s = ⟨#[77, 109]⟩
  · have hx : rowIx s = 6 := by subst h9; decide +kernel
    unfold sc0 sc1 sc2 isN
    rw [hx]
    subst h9
    exact find_Mm
  have hx : rowIx s = 7 := by unfold rowIx; rw [if_neg h0, if_neg h1, if_neg h2, if_neg h3, if_neg h4, if_neg h5, if_neg h6, if_neg h7, if_neg h8, if_neg h9]
  unfold sc0 sc1 sc2 isN
  rw [hx]
  exact find_none s (by have h := bytes_ne h0; rwa [bl2] at h) (by have h := bytes_ne h1; rwa [bl2] at h) (by have h := bytes_ne h2; rwa [bl2] at h) (by have h := bytes_ne h3; rwa [bl2] at h) (by have h := bytes_ne h4; rwa [bl2] at h) (by have h := bytes_ne h5; rwa [bl2] at h) (by have h := bytes_ne h6; rwa [bl2] at h) (by have h := bytes_ne h7; rwa [bl2] at h) (by have h := bytes_ne h8; rwa [bl2] at h) (by have h := bytes_ne h9; rwa [bl2] at h)
theorem rowOk_ix (i : Nat) (hi : i < 7) {re im : Nat} (hr : Abs ONE re) (hm : Abs ONE im) : RowOk i re im := by
  rcases (show i = 0 ∨ i = 1 ∨ i = 2 ∨ i = 3 ∨ i = 4 ∨ i = 5 ∨ i = 6 by omega) with rfl | rfl | rfl | rfl | rfl | rfl | rfl
  · exact rowOk0 hr hm
  · exact rowOk1 hr hm
  · exact rowOk2 hr hm
  · exact rowOk3 hr hm
  · exact rowOk4 hr hm
  · exact rowOk5 hr hm
  · exact rowOk6 hr hm
def sF (t : Int) (s : ByteArray) : Nat := facR (rowIx s) (nRe t)
def sT (t : Int) (s : ByteArray) : Nat := tnR (rowIx s) (nIm t)
theorem name_calls (s : ByteArray) (t : Int) (h0 : 0 ≤ t) (h1 : t ≤ 1048576) (hb : isN s = true) : AbsN 4 (sF t s) ∧ sT t s < 3600000 ∧
    (∀ wx : World, Calls Try.prog 49 #[.string s, .int .i64 t] wx fun e w' => e = .returned (.tuple #[.float .f64 (sF t s), .int .i64 0]) ∧ Below wx.heap.size wx w') ∧
    (∀ wx : World, Calls Try.prog 50 #[.string s, .int .i64 t] wx fun e w' => e = .returned (.tuple #[.agg #[.int .i64 (tX (sT t s)), .int .i64 (tY (sT t s))], .int .i64 0]) ∧ Below wx.heap.size wx w') := by
  have hx : rowIx s < 7 := by simpa [isN] using hb
  have hr := rowOk_ix (rowIx s) hx (nRe_abs t) (nIm_abs t)
  have hf := (find_ix s).1
  rw [hb] at hf
  unfold sc0 sc1 sc2 at hf
  rw [if_pos hx, if_pos hx, if_pos hx] at hf
  obtain ⟨c1, c2⟩ := row_calls s (rowIx s) t h0 h1 hr hf
  exact ⟨hr.fin, hr.lt, c1, c2⟩
theorem times_ix (v : Option Addr) (n c : Nat) (S : Nat → ByteArray) (t : Int) (w : World) (h : n ≤ 8) (hnm : NamesAt v n S w.heap.size w) (h0 : 0 ≤ t) (h1 : t ≤ 1048576) :
    Calls Try.prog 70 #[.slice v n c, .int .i64 t] w fun e w' =>
      ((∃ i : Nat, i < n ∧ (∀ j, j < i → isN (S j) = true) ∧ isN (S i) = false ∧ e = .returned (.tuple #[.float .f64 0, .agg #[.int .i64 0, .int .i64 0], .agg #[.int .i64 6, .int .i64 (i : Int)]])) ∨
       ((∀ j, j < n → isN (S j) = true) ∧ e = .returned (.tuple #[.float .f64 (prodB (fun j => sF t (S j)) n), .agg #[.int .i64 (tX (sumP (fun j => sT t (S j)) n)), .int .i64 (tY (sumP (fun j => sT t (S j)) n))], .agg #[.int .i64 0, .int .i64 0]]))) ∧ Below w.heap.size w w' :=
  times_any v n c S t _ _ sc0 sc1 sc2 isN (sF t) (sT t) w h hnm (hide_ (fun wx => node_ok t wx h0 h1)) (hide_ (fun s wx => (find_ix s).1 wx)) (hide_ (fun s hb => name_calls s t h0 h1 hb))
theorem p74_split (a b c : Nat) (h : a + b + c = 1074) : 2 ^ a * 2 ^ b * 2 ^ c = P74 := by
  rw [← Nat.pow_add, ← Nat.pow_add, h, p74_eq']
/-- Of a still row the factor is just 1. -/
theorem fa_one {m : Nat} (hm : Abs 0 m) : fa m ONE = ONE := by
  obtain ⟨a, f1, ha, _⟩ := hm
  rw [valR_low (by decide)] at ha
  have f2 := pos_const ONE (by decide)
  obtain ⟨s, m1, i, rx, hi, rfl⟩ := f1.ex
  obtain ⟨s2, n1, j, ry, hj, hv⟩ := f2.ex
  have hs2 : double.read ONE = .number false (2 ^ 52) (-52) := by decide +kernel
  rw [hs2] at ry
  cases ry
  have hm0 : m1 = 0 := by
    rw [signed_abs] at ha
    have h := Nat.le_zero.1 ha
    exact (Nat.mul_eq_zero.1 h).resolve_right (Nat.ne_of_gt (Nat.two_pow_pos _))
  subst hm0
  have hz : ∀ u, signed s 0 u = 0 := fun u => by rw [signed_val, Nat.zero_mul]; cases s <;> rfl
  unfold fa Format.add
  rw [rx, hs2]
  simp only [Datum.sum, hz, Option.map_some, Option.getD_some, Int.zero_add]
  rw [signed_val]
  have hpos : ((2 ^ 52 * 2 ^ (-52 - min i (-52)).toNat : Nat) : Int) ≠ 0 := by
    have := Nat.mul_pos (show 0 < 2 ^ 52 by decide) (Nat.two_pow_pos (-52 - min i (-52)).toNat)
    omega
  simp only [Bool.false_eq_true, if_false]
  rw [if_neg hpos]
  have hneg : decide (((2 ^ 52 * 2 ^ (-52 - min i (-52)).toNat : Nat) : Int) < 0) = false := decide_eq_false (by omega)
  rw [hneg]
  obtain ⟨R, r1, r2, r3⟩ := nearest_between (neg := false) (mag := 2 ^ 52 * 2 ^ (-52 - min i (-52)).toNat) (p := min i (-52)) (A := ONE) (B := ONE) (u := (min i (-52) + 1074).toNat) (s := 0) (by decide) (by omega) (by
    rw [Nat.pow_zero, Nat.mul_one, valR_one]
    exact Nat.le_of_eq (p74_split _ _ _ (by omega)).symm) (by
    rw [Nat.pow_zero, Nat.mul_one, valR_one]
    exact Nat.le_of_eq (p74_split _ _ _ (by omega)))
  obtain rfl : R = ONE := by omega
  have hna : ((2 ^ 52 * 2 ^ (-52 - min i (-52)).toNat : Nat) : Int).natAbs = 2 ^ 52 * 2 ^ (-52 - min i (-52)).toNat := rfl
  rw [hna]
  exact r3
theorem fac_still {re : Nat} (hr : Abs ONE re) : facR 1 re = ONE :=
  fa_one ((absw false (S := 0) (by decide) : Abs 0 (rc1 1)).mulOne (by decide) hr).2
end Go.Proofs.Ytklhdpkofpkmjaa
