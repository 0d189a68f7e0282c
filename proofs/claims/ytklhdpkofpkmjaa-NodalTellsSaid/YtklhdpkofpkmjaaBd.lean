/- The plain law of NodalBounds: no factor and no turn is far away. No program. -/
import Derived.Test.YtklhdpkofpkmjaaFl6
namespace Go.Proofs.Ytklhdpkofpkmjaa
open Ieee
set_option linter.unusedVariables false
def HALF : Nat := 4602678819172646912
def ONEH : Nat := 4609434218613702656
theorem cmp_ge {a b : Int} (h : b ≤ a) : (some (compare a b) == some Ordering.gt || some (compare a b) == some Ordering.eq) = true := by
  have e : compare a b = compareOfLessAndEq a b := rfl
  rw [e]
  unfold compareOfLessAndEq
  rw [if_neg (by omega)]
  split <;> rfl
theorem cmp_le {a b : Int} (h : a ≤ b) : (some (compare a b) == some Ordering.lt || some (compare a b) == some Ordering.eq) = true := by
  have e : compare a b = compareOfLessAndEq a b := rfl
  rw [e]
  unfold compareOfLessAndEq
  by_cases h1 : a < b
  · rw [if_pos h1]; rfl
  · rw [if_neg h1, if_pos (by omega)]; rfl
/-- What the bounds say of a factor. -/
structure FacB (f : Nat) : Prop where
  ge : (FloatKind.f64.format.order f HALF == some .gt || FloatKind.f64.format.order f HALF == some .eq) = true
  le : (FloatKind.f64.format.order f ONEH == some .lt || FloatKind.f64.format.order f ONEH == some .eq) = true
  eq : (FloatKind.f64.format.order f f == some .eq) = true
theorem Abs.mulOne {R x y : Nat} (hR : R < 2047 * 2 ^ 52) (hx : Abs R x) (hy : Abs ONE y) : double.mul x y = some (fm x y) ∧ Abs R (fm x y) :=
  hx.mul hR hy (by rw [valR_one]; exact Nat.le_refl _)
theorem facB_of {S1 S0 m : Nat} (h0 : S0 < 2047 * 2 ^ 52) (hm : Abs S1 m) (h1 : valR HALF + valR S1 ≤ valR S0) (h2 : valR S0 + valR S1 ≤ valR ONEH) : double.add m S0 = some (fa m S0) ∧ FacB (fa m S0) := by
  obtain ⟨a, f1, ha, _⟩ := hm
  have f2 := pos_const S0 h0
  have hs : valR HALF ≤ (a + (valR S0 : Int)).natAbs ∧ (a + (valR S0 : Int)).natAbs ≤ valR ONEH ∧ 0 ≤ a + (valR S0 : Int) := by omega
  obtain ⟨r, c, e1, e2, e3, e4, e5, e6⟩ := f1.add f2 (A := HALF) (B := ONEH) (by decide) hs.1 hs.2.1
  have hw := add_ok (a := 0) ⟨r, c, e1, e2⟩
  obtain rfl : fa m S0 = r := by rw [e1] at hw; exact (Option.some.inj hw.1).symm
  have hc := e5 hs.2.2
  refine ⟨hw.1, ?_, ?_, ?_⟩
  · rw [show FloatKind.f64.format.order (fa m S0) HALF = some (compare c (valR HALF)) from order_fin e2 (pos_const HALF (by decide))]
    exact cmp_ge (by omega)
  · rw [show FloatKind.f64.format.order (fa m S0) ONEH = some (compare c (valR ONEH)) from order_fin e2 (pos_const ONEH (by decide))]
    exact cmp_le (by omega)
  · rw [show FloatKind.f64.format.order (fa m S0) (fa m S0) = some (compare c c) from order_fin e2 e2]
    simp
theorem still_of {m : Nat} (hm : Abs 0 m) : (FloatKind.f64.format.order (fa m ONE) ONE == some .eq) = true := by
  obtain ⟨a, f1, ha, _⟩ := hm
  rw [valR_low (by decide)] at ha
  have f2 := pos_const ONE (by decide)
  obtain ⟨r, c, e1, e2, e3, e4, e5, e6⟩ := f1.add f2 (A := ONE) (B := ONE) (by decide) (by omega) (by omega)
  have hw := add_ok (a := 0) ⟨r, c, e1, e2⟩
  obtain rfl : fa m ONE = r := by rw [e1] at hw; exact (Option.some.inj hw.1).symm
  rw [show FloatKind.f64.format.order (fa m ONE) ONE = some (compare c (valR ONE)) from order_fin e2 f2]
  have hc := e5 (by omega)
  have : c = (valR ONE : Int) := by omega
  rw [this]
  simp
def rc0 : Nat → Nat
  | 0 => 4607182418800017408
  | 1 => 4607182418800017408
  | 2 => 4607290505191074300
  | 3 => 4607209440397781631
  | 4 => 4607222951196663742
  | 5 => 4607376073583994339
  | _ => 4607182418800017408
def rc1 : Nat → Nat
  | 0 => 13808865119849376907
  | 1 => 0
  | 2 => 4598823737891617767
  | 3 => 4592951043977526641
  | 4 => 4595905405333081686
  | 5 => 4601129580900831461
  | _ => 13817223800757776548
def rc2 : Nat → Nat
  | 0 => 13894873686856433664
  | 1 => 0
  | 2 => 13908693723383857152
  | 3 => 13904224483494854656
  | 4 => 4682158116698062848
  | 5 => 13910755307685937152
  | _ => 0
/-- A row's factor of a cosine; its turn's parts of a sine. -/
def facR (i re : Nat) : Nat := fa (fm (rc1 i) re) (rc0 i)
def tnR (i im : Nat) : Nat := (rteN (fm (rc2 i) im) % 3600000).toNat
/-- What the walk wants of a row. -/
structure RowOk (i re im : Nat) : Prop where
  m1 : double.mul (rc1 i) re = some (fm (rc1 i) re)
  a1 : double.add (fm (rc1 i) re) (rc0 i) = some (facR i re)
  fb : FacB (facR i re)
  m2 : double.mul (rc2 i) im = some (fm (rc2 i) im)
  n2 : AbsN 262144 (fm (rc2 i) im)
  tb : (tnR i im : Int) ≤ 237000 ∨ 3363000 ≤ (tnR i im : Int)
  lt : tnR i im < 3600000
  fin : AbsN 4 (facR i re)
theorem tn_bd {n x : Nat} (h : AbsN n x) (hn : n ≤ 237000) : (((rteN x % 3600000).toNat : Nat) : Int) ≤ 237000 ∨ 3363000 ≤ (((rteN x % 3600000).toNat : Nat) : Int) := by
  have := rteN_le h
  omega
theorem tn_zero {x : Nat} (h : AbsN 0 x) : (rteN x % 3600000).toNat = 0 := by
  have := rteN_le h
  omega
theorem tn_lt (x : Nat) : (rteN x % 3600000).toNat < 3600000 := by omega
theorem absw (neg : Bool) {S : Nat} (h : S < 2047 * 2 ^ 52) : Abs S (double.word neg S) := by
  refine ⟨_, fin_word h, ?_, ?_⟩
  · cases neg <;> simp
  · cases neg
    · rw [word_false]; omega
    · rw [word_true (by omega)]; omega
theorem rowOk0 {re im : Nat} (hr : Abs ONE re) (hi : Abs ONE im) : RowOk 0 re im := by
  have c1 : Abs 4585493082994601099 (rc1 0) := absw true (by decide)
  have c2 : Abs 4671501650001657856 (rc2 0) := absw true (by decide)
  have m1 := c1.mulOne (by decide) hr
  have m2 := c2.mulOne (by decide) hi
  have fb := facB_of (S0 := 4607182418800017408) (by decide) m1.2 (by decide +kernel) (by decide +kernel)
  have n2 := m2.2.toN (n := 21000) (by decide +kernel)
  have c1n := m1.2.toN (n := 1) (by decide +kernel)
  have c0n : AbsN 2 (rc0 0) := row_b0.1
  exact ⟨m1.1, fb.1, fb.2, m2.1, n2.up (by decide), tn_bd n2 (by decide), tn_lt _, ((c1n.add c0n (by decide)).2).up (by decide)⟩
theorem rowOk1 {re im : Nat} (hr : Abs ONE re) (hi : Abs ONE im) : RowOk 1 re im := by
  have c1 : Abs 0 (rc1 1) := absw false (by decide)
  have c2 : Abs 0 (rc2 1) := absw false (by decide)
  have m1 := c1.mulOne (by decide) hr
  have m2 := c2.mulOne (by decide) hi
  have fb := facB_of (S0 := 4607182418800017408) (by decide) m1.2 (by decide +kernel) (by decide +kernel)
  have n2 := m2.2.toN (n := 0) (by decide +kernel)
  have c1n := m1.2.toN (n := 1) (by decide +kernel)
  have c0n : AbsN 2 (rc0 1) := row_b1.1
  exact ⟨m1.1, fb.1, fb.2, m2.1, n2.up (by decide), tn_bd n2 (by decide), tn_lt _, ((c1n.add c0n (by decide)).2).up (by decide)⟩
theorem rowOk2 {re im : Nat} (hr : Abs ONE re) (hi : Abs ONE im) : RowOk 2 re im := by
  have c1 : Abs 4598823737891617767 (rc1 2) := absw false (by decide)
  have c2 : Abs 4685321686529081344 (rc2 2) := absw true (by decide)
  have m1 := c1.mulOne (by decide) hr
  have m2 := c2.mulOne (by decide) hi
  have fb := facB_of (S0 := 4607290505191074300) (by decide) m1.2 (by decide +kernel) (by decide +kernel)
  have n2 := m2.2.toN (n := 177000) (by decide +kernel)
  have c1n := m1.2.toN (n := 1) (by decide +kernel)
  have c0n : AbsN 2 (rc0 2) := row_b2.1
  exact ⟨m1.1, fb.1, fb.2, m2.1, n2.up (by decide), tn_bd n2 (by decide), tn_lt _, ((c1n.add c0n (by decide)).2).up (by decide)⟩
theorem rowOk3 {re im : Nat} (hr : Abs ONE re) (hi : Abs ONE im) : RowOk 3 re im := by
  have c1 : Abs 4592951043977526641 (rc1 3) := absw false (by decide)
  have c2 : Abs 4680852446640078848 (rc2 3) := absw true (by decide)
  have m1 := c1.mulOne (by decide) hr
  have m2 := c2.mulOne (by decide) hi
  have fb := facB_of (S0 := 4607209440397781631) (by decide) m1.2 (by decide +kernel) (by decide +kernel)
  have n2 := m2.2.toN (n := 89000) (by decide +kernel)
  have c1n := m1.2.toN (n := 1) (by decide +kernel)
  have c0n : AbsN 2 (rc0 3) := row_b3.1
  exact ⟨m1.1, fb.1, fb.2, m2.1, n2.up (by decide), tn_bd n2 (by decide), tn_lt _, ((c1n.add c0n (by decide)).2).up (by decide)⟩
theorem rowOk4 {re im : Nat} (hr : Abs ONE re) (hi : Abs ONE im) : RowOk 4 re im := by
  have c1 : Abs 4595905405333081686 (rc1 4) := absw false (by decide)
  have c2 : Abs 4682158116698062848 (rc2 4) := absw false (by decide)
  have m1 := c1.mulOne (by decide) hr
  have m2 := c2.mulOne (by decide) hi
  have fb := facB_of (S0 := 4607222951196663742) (by decide) m1.2 (by decide +kernel) (by decide +kernel)
  have n2 := m2.2.toN (n := 108000) (by decide +kernel)
  have c1n := m1.2.toN (n := 1) (by decide +kernel)
  have c0n : AbsN 2 (rc0 4) := row_b4.1
  exact ⟨m1.1, fb.1, fb.2, m2.1, n2.up (by decide), tn_bd n2 (by decide), tn_lt _, ((c1n.add c0n (by decide)).2).up (by decide)⟩
theorem rowOk5 {re im : Nat} (hr : Abs ONE re) (hi : Abs ONE im) : RowOk 5 re im := by
  have c1 : Abs 4601129580900831461 (rc1 5) := absw false (by decide)
  have c2 : Abs 4687383270831161344 (rc2 5) := absw true (by decide)
  have m1 := c1.mulOne (by decide) hr
  have m2 := c2.mulOne (by decide) hi
  have fb := facB_of (S0 := 4607376073583994339) (by decide) m1.2 (by decide +kernel) (by decide +kernel)
  have n2 := m2.2.toN (n := 237000) (by decide +kernel)
  have c1n := m1.2.toN (n := 1) (by decide +kernel)
  have c0n : AbsN 2 (rc0 5) := row_b5.1
  exact ⟨m1.1, fb.1, fb.2, m2.1, n2.up (by decide), tn_bd n2 (by decide), tn_lt _, ((c1n.add c0n (by decide)).2).up (by decide)⟩
theorem rowOk6 {re im : Nat} (hr : Abs ONE re) (hi : Abs ONE im) : RowOk 6 re im := by
  have c1 : Abs 4593851763903000740 (rc1 6) := absw true (by decide)
  have c2 : Abs 0 (rc2 6) := absw false (by decide)
  have m1 := c1.mulOne (by decide) hr
  have m2 := c2.mulOne (by decide) hi
  have fb := facB_of (S0 := 4607182418800017408) (by decide) m1.2 (by decide +kernel) (by decide +kernel)
  have n2 := m2.2.toN (n := 0) (by decide +kernel)
  have c1n := m1.2.toN (n := 1) (by decide +kernel)
  have c0n : AbsN 2 (rc0 6) := row_b6.1
  exact ⟨m1.1, fb.1, fb.2, m2.1, n2.up (by decide), tn_bd n2 (by decide), tn_lt _, ((c1n.add c0n (by decide)).2).up (by decide)⟩
theorem still1 {re : Nat} (hr : Abs ONE re) : (FloatKind.f64.format.order (facR 1 re) ONE == some .eq) = true :=
  still_of ((absw false (S := 0) (by decide) : Abs 0 (rc1 1)).mulOne (by decide) hr).2
theorem tn1 {im : Nat} (hi : Abs ONE im) : tnR 1 im = 0 := tn_zero (((absw false (S := 0) (by decide) : Abs 0 (rc2 1)).mulOne (by decide) hi).2.toN (n := 0) (by decide +kernel))
theorem tn6 {im : Nat} (hi : Abs ONE im) : tnR 6 im = 0 := tn_zero (((absw false (S := 0) (by decide) : Abs 0 (rc2 6)).mulOne (by decide) hi).2.toN (n := 0) (by decide +kernel))
end Go.Proofs.Ytklhdpkofpkmjaa
