/- The plain law of a turn's number: sine, cosine, the eighths. No program. -/
import Derived.Test.YtklhdpkofpkmjaaFl4
namespace Go.Proofs.Ytklhdpkofpkmjaa
open Ieee
set_option linter.unusedVariables false
def PI4 : Nat := 4605249457297304856
theorem pi4_le : PI4 ≤ ONE := by decide
theorem pos_pi4 : Pos PI4 PI4 := ⟨_, pos_const PI4 (by decide), by omega, by omega, by decide⟩
theorem pos_one : Pos ONE ONE := ⟨_, pos_const ONE (by decide), by omega, by omega, by decide⟩
/-- Part over whole, times a quarter of pi. -/
def rootF (a w : Nat) : Nat := fd (floatOfInt .f64 (a : Int)) (floatOfInt .f64 (w : Int))
def rootY (a w : Nat) : Nat := fm (rootF a w) PI4
theorem rootF_ok (a w : Nat) (h : a ≤ w) (h1 : 1 ≤ w) (h2 : w ≤ 4294967296) : double.div (floatOfInt .f64 (a : Int)) (floatOfInt .f64 (w : Int)) = some (rootF a w) ∧ Pos ONE (rootF a w) := by
  have fa1 := fin_ofInt (a : Int) (by omega)
  have fb1 := fin_ofInt (w : Int) (by omega)
  rw [← p74_eq'] at fa1 fb1
  have hP : 0 < P74 := by rw [← valR_one]; exact Nat.lt_of_lt_of_le (by rw [valR_low (by decide)]; decide : 0 < valR 1) (valR_mono (by decide))
  have hA : ((a : Int) * (P74 : Nat)).natAbs = a * P74 := by rw [← Int.natCast_mul]; rfl
  have hW : ((w : Int) * (P74 : Nat)).natAbs = w * P74 := by rw [← Int.natCast_mul]; rfl
  obtain ⟨r, c, e1, e2, e3, e4⟩ := fa1.div fb1 (K := 0) (by decide) (Int.mul_pos (by omega) (by omega)) (by
    rw [hA, hW, Nat.pow_zero, Nat.one_mul]
    exact Nat.mul_le_mul_right _ h)
  rw [← p74_eq, ← valR_one] at e3
  have hw := double.div_lt e1
  have hr : rootF a w = r := by unfold rootF fd; rw [e1]; rfl
  rw [hr]
  exact ⟨e1, c, e2, e4 (Int.mul_nonneg (by omega) (by omega)), e3, hw⟩
theorem rootY_ok {f : Nat} (hf : Pos ONE f) : double.mul f PI4 = some (fm f PI4) ∧ Pos PI4 (fm f PI4) := by
  obtain ⟨a, fa1, ha, hab, _⟩ := hf
  rw [valR_one] at hab
  have hb := pos_const PI4 (by decide)
  obtain ⟨r, c, h1, h2, h4, h5, h6⟩ := fa1.mulP hb (B := PI4) (by decide) (by rw [Nat.mul_comm (valR PI4)]; exact Nat.mul_le_mul hab (by omega))
  have hw := mul_ok (a := 0) ⟨r, c, h1, h2⟩
  obtain rfl : fm f PI4 = r := by rw [h1] at hw; exact (Option.some.inj hw.1).symm
  exact ⟨hw.1, c, h2, h5 (Int.mul_nonneg ha (by omega)), Int.ofNat_le.1 h4, hw.2⟩
def sinB (y : Nat) : Nat := fa y (fm (fm y (fm y y)) (hat sinO (fm y y) 6))
def cosB (y : Nat) : Nat := fa ONE (fm (fm y y) (hat cosO (fm y y) 7))
structure YOk (y : Nat) : Prop where
  q : double.mul y y = some (fm y y)
  s : Steps sinO 6 (fm y y)
  c : Steps cosO 7 (fm y y)
  yq : double.mul y (fm y y) = some (fm y (fm y y))
  ys : double.mul (fm y (fm y y)) (hat sinO (fm y y) 6) = some (fm (fm y (fm y y)) (hat sinO (fm y y) 6))
  sin : double.add y (fm (fm y (fm y y)) (hat sinO (fm y y) 6)) = some (sinB y)
  qc : double.mul (fm y y) (hat cosO (fm y y) 7) = some (fm (fm y y) (hat cosO (fm y y) 7))
  cos : double.add ONE (fm (fm y y) (hat cosO (fm y y) 7)) = some (cosB y)
  sinb : Abs ONE (sinB y)
  cosb : Abs ONE (cosB y)
/-- Of numbers of unlike sign the sum is no more than the greater. -/
theorem mix_add {R S x y : Nat} (hR : R < 2047 * 2 ^ 52) (hx : Pos R x) (hy : Neg S y) (h : S ≤ R) : double.add x y = some (fa x y) ∧ Abs R (fa x y) := by
  obtain ⟨a, f1, a1, a2, _⟩ := hx
  obtain ⟨b, f2, b1, b2, _⟩ := hy
  have hm := valR_mono h
  obtain ⟨r, c, h1, h2, h3, h4, h5, h6⟩ := f1.add f2 (A := 0) (B := R) hR (by rw [valR_low (by decide)]; exact Nat.zero_le _) (by omega)
  have hw := add_ok (a := 0) ⟨r, c, h1, h2⟩
  obtain rfl : fa x y = r := by rw [h1] at hw; exact (Option.some.inj hw.1).symm
  exact ⟨hw.1, c, h2, Int.ofNat_le.1 h4, hw.2⟩
theorem mix_mul {R S x y : Nat} (hS : S < 2047 * 2 ^ 52) (hx : Pos R x) (hR : R ≤ ONE) (hy : Neg S y) : double.mul x y = some (fm x y) ∧ Neg S (fm x y) := by
  obtain ⟨a, f1, a1, a2, _⟩ := hx
  obtain ⟨b, f2, b1, b2, _⟩ := hy
  have hm := valR_mono hR
  rw [valR_one] at hm
  obtain ⟨r, c, h1, h2, h4, h5, h6⟩ := f1.mulP f2 (B := S) hS (by rw [Nat.mul_comm]; exact Nat.mul_le_mul b2 (Nat.le_trans a2 hm))
  have hw := mul_ok (a := 0) ⟨r, c, h1, h2⟩
  obtain rfl : fm x y = r := by rw [h1] at hw; exact (Option.some.inj hw.1).symm
  exact ⟨hw.1, c, h2, h6 (Int.mul_nonpos_of_nonneg_of_nonpos a1 b1), Int.ofNat_le.1 h4, hw.2⟩
theorem yok {y : Nat} (hy : Pos PI4 y) : YOk y := by
  have hy1 := hy.up pi4_le
  have q := hy1.mul (by decide) hy1
  have s := sin_steps q.2
  have c := cos_steps q.2
  have yq := hy.mul (by decide) q.2
  have ys := mix_mul (by decide) yq.2 pi4_le (s.2.up (S := ONE) (by decide))
  have sn := mix_add (by decide) hy1 ys.2 (Nat.le_refl _)
  have qc := mix_mul (by decide) q.2 (Nat.le_refl _) (c.2.up (S := ONE) (by decide))
  have cn := mix_add (by decide) pos_one qc.2 (Nat.le_refl _)
  exact ⟨q.1, s.1, c.1, yq.1, ys.1, sn.1, qc.1, cn.1, sn.2, cn.2⟩
theorem Abs.neg {R x : Nat} (h : Abs R x) : Abs R (Op.negFloat .f64 x) := by
  obtain ⟨a, f1, a1, a2⟩ := h
  have := f1.neg a2
  exact ⟨_, this.1, by rw [Int.natAbs_neg]; exact a1, this.2⟩
/-- A nought as +0. -/
def plusB (x : Nat) : Nat := if double.order x 0 = some .eq then 0 else x
theorem Abs.plus {R x : Nat} (h : Abs R x) : Abs R (plusB x) := by
  unfold plusB
  split
  · exact ⟨0, by have := pos_const 0 (by decide); rwa [valR_low (by decide)] at this, by simp, by decide⟩
  · exact h
def reB (e s c : Nat) : Nat :=
  match e with
  | 0 => c
  | 1 => s
  | 2 => Op.negFloat .f64 s
  | 3 => Op.negFloat .f64 c
  | 4 => Op.negFloat .f64 c
  | 5 => Op.negFloat .f64 s
  | 6 => s
  | _ => c
def imB (e s c : Nat) : Nat :=
  match e with
  | 0 => s
  | 1 => c
  | 2 => c
  | 3 => s
  | 4 => Op.negFloat .f64 s
  | 5 => Op.negFloat .f64 c
  | 6 => Op.negFloat .f64 c
  | _ => Op.negFloat .f64 s
/-- The turn's number. -/
def rootA (x w : Nat) : Nat := if 8 * x / w % 2 = 1 then w - 8 * x % w else 8 * x % w
def rootRe (x w : Nat) : Nat := plusB (reB (8 * x / w) (sinB (rootY (rootA x w) w)) (cosB (rootY (rootA x w) w)))
def rootIm (x w : Nat) : Nat := plusB (imB (8 * x / w) (sinB (rootY (rootA x w) w)) (cosB (rootY (rootA x w) w)))
theorem rootA_le (x w : Nat) (h : 1 ≤ w) : rootA x w ≤ w := by
  have := Nat.mod_lt (8 * x) (show 0 < w by omega)
  unfold rootA
  split <;> omega
theorem rootY_yok (x w : Nat) (h1 : 1 ≤ w) (h2 : w ≤ 4294967296) : YOk (rootY (rootA x w) w) := yok (rootY_ok (rootF_ok _ _ (rootA_le x w h1) h1 h2).2).2
theorem rootRe_abs (x w : Nat) (h1 : 1 ≤ w) (h2 : w ≤ 4294967296) : Abs ONE (rootRe x w) := by
  have h := rootY_yok x w h1 h2
  unfold rootRe
  apply Abs.plus
  unfold reB
  split <;> first | exact h.sinb | exact h.cosb | exact h.sinb.neg | exact h.cosb.neg
theorem rootIm_abs (x w : Nat) (h1 : 1 ≤ w) (h2 : w ≤ 4294967296) : Abs ONE (rootIm x w) := by
  have h := rootY_yok x w h1 h2
  unfold rootIm
  apply Abs.plus
  unfold imB
  split <;> first | exact h.sinb | exact h.cosb | exact h.sinb.neg | exact h.cosb.neg
end Go.Proofs.Ytklhdpkofpkmjaa
