/- Chapter 12: a name's mean factor: contracts in the program and in the reference. -/
import Derived.Test.YtklhdpkofpkmjaaNd4
namespace Go.Proofs.Ytklhdpkofpkmjaa
open Go.RowKit Ieee
set_option linter.unusedVariables false
set_option maxRecDepth 100000
theorem fac_fun (s : ByteArray) : ∃ (F : Int → Nat) (E : Int → Int), ∀ t, AbsN 4 (F t) ∧
    (∀ wx : World, Calls Try.prog 49 #[.string s, .int .i64 t] wx fun e w' => e = .returned (.tuple #[.float .f64 (F t), .int .i64 (E t)]) ∧ Below wx.heap.size wx w') ∧
    (∀ wx : World, Calls Try.prog 68 #[.string s, .int .i64 t] wx fun e w' => e = .returned (.tuple #[.float .f64 (F t), .int .i64 (E t)]) ∧ Below wx.heap.size wx w') :=
  ⟨fun t => Classical.choose (factor_alike s t), fun t => Classical.choose (Classical.choose_spec (factor_alike s t)), fun t => Classical.choose_spec (Classical.choose_spec (factor_alike s t))⟩
/-- The sum of k factors from tick a on. -/
def sumB (F : Int → Nat) (a : Int) : Nat → Nat
  | 0 => 0
  | k + 1 => fa (sumB F a k) (F (a + k))
theorem sumB_ok {F : Int → Nat} (hF : ∀ t, AbsN 4 (F t)) (a : Int) (k : Nat) (hk : k ≤ 4096) : AbsN (4 * k) (sumB F a k) := by
  induction k with
  | zero =>
    have h := pos_const 0 (by decide)
    rw [valR_low (by decide)] at h
    exact ⟨0, h, by simp, (by decide : (0 : Nat) < 2 ^ 64)⟩
  | succ k ih => exact ((ih (by omega)).add (hF (a + k)) (by omega)).2
theorem sumB_step {F : Int → Nat} (hF : ∀ t, AbsN 4 (F t)) (a : Int) (k : Nat) (hk : k < 4096) : double.add (sumB F a k) (F (a + k)) = some (sumB F a (k + 1)) :=
  ((sumB_ok hF a k (by omega)).add (hF (a + k)) (by omega)).1
theorem mean_div {x n : Nat} (h : AbsN (4 * n) x) (hn : 1 ≤ n) (hn2 : n ≤ 4096) : double.div x (floatOfInt .f64 (n : Int)) = some (fd x (floatOfInt .f64 (n : Int))) ∧ ∃ v, Fin64 (fd x (floatOfInt .f64 (n : Int))) v := by
  obtain ⟨a, f1, ha, _⟩ := h
  have f2 := fin_ofInt (n : Int) (by omega)
  rw [← p74_eq'] at f2
  have hP : 0 < P74 := by rw [← valR_one]; exact Nat.lt_of_lt_of_le (by rw [valR_low (by decide)]; decide : 0 < valR 1) (valR_mono (by decide))
  have hW : ((n : Int) * (P74 : Nat)).natAbs = n * P74 := by rw [← Int.natCast_mul]; rfl
  obtain ⟨r, c, e1, e2, e3, e4⟩ := f1.div f2 (K := 2) (by decide) (Int.mul_pos (by omega) (by omega)) (by
    rw [hW, ← Nat.mul_assoc]
    exact ha)
  have hr : fd x (floatOfInt .f64 (n : Int)) = r := by unfold fd; rw [e1]; rfl
  rw [hr]
  exact ⟨e1, c, e2⟩
theorem mean_e (s : ByteArray) (a b e1 : Int) (w : World) (h : e1 ≠ 0) (HS : Hid (∀ w : World, Calls Try.prog 89 #[.int .i64 a, .int .i64 b] w fun e w' => e = .returned (.int .i64 e1) ∧ w = w')) :
    Calls Try.prog 34 #[.string s, .int .i64 a, .int .i64 b] w fun e w' => e = .returned (.tuple #[.float .f64 0, .int .i64 e1]) ∧ Below w.heap.size w w' := by
  have hb : (e1 != 0) = true := by simpa using h
  clear h
  go_enter Try.func34, Try.ntmps34
  go_wp2_with (go_at_call 89; (with_reducible refine (HS.out _).mono ?_); rintro e w1 ⟨rfl, rfl⟩)
  go_ret2
  exact ⟨rfl, Below.refl _ _⟩
theorem mean_z (s : ByteArray) (a b : Int) (w : World) (h : a = b) (HS : Hid (∀ w : World, Calls Try.prog 89 #[.int .i64 a, .int .i64 b] w fun e w' => e = .returned (.int .i64 0) ∧ w = w')) :
    Calls Try.prog 34 #[.string s, .int .i64 a, .int .i64 b] w fun e w' => e = .returned (.tuple #[.float .f64 0, .int .i64 2]) ∧ Below w.heap.size w w' := by
  subst h
  go_enter Try.func34, Try.ntmps34
  go_wp2_with (go_at_call 89; (with_reducible refine (HS.out _).mono ?_); rintro e w1 ⟨rfl, rfl⟩)
  go_ret2
  exact ⟨rfl, Below.refl _ _⟩
theorem mean_m (s : ByteArray) (a b : Int) (c0 c1 c2 : Nat) (w : World) (h : ¬ a = b) (HS : Hid (∀ w : World, Calls Try.prog 89 #[.int .i64 a, .int .i64 b] w fun e w' => e = .returned (.int .i64 0) ∧ w = w')) (HF : Hid (∀ wx : World, Calls Try.prog 90 #[.string s] wx fun e w' => e = .returned (.tuple #[.agg #[.float .f64 c0, .float .f64 c1, .float .f64 c2], .bool false]) ∧ Below wx.heap.size wx w')) :
    Calls Try.prog 34 #[.string s, .int .i64 a, .int .i64 b] w fun e w' => e = .returned (.tuple #[.float .f64 0, .int .i64 6]) ∧ Below w.heap.size w w' := by
  have hb : (a == b) = false := by simpa using h
  go_enter Try.func34, Try.ntmps34
  go_wp2_with (first
    | (go_at_call 89; (with_reducible refine (HS.out _).mono ?_); rintro e w1 ⟨rfl, rfl⟩)
    | (go_at_call 90; (with_reducible refine (HF.out _).mono ?_); rintro e w2 ⟨rfl, hb2⟩)
    | ((with_reducible apply wpList_store_new); (with_reducible rfl); (with_reducible rfl); rfl; rfl; kernel_rfl; rfl; kernel_rfl))
  go_ret2
  have hg0 := Grew.of hb2
  exact ⟨rfl, by exact Grew.below (by repeat (first | exact Grew.refl _ | assumption | refine Grew.alloc ?_ _ | refine Grew.drewN ?_ _ | refine Grew.drew ?_ | refine Grew.setRow ?_ (by first | assumption | (simp; done) | (simp; omega) | omega) _ | refine Grew.setCell ?_ (by first | assumption | (simp; done) | (simp; omega) | omega) _ | refine Grew.step ?_ (by assumption)))⟩
set_option maxHeartbeats 800000 in
theorem mean_o (s : ByteArray) (a : Int) (n : Nat) (c0 c1 c2 : Nat) (F : Int → Nat) (E : Int → Int) (w : World) (h0 : 0 ≤ a) (h1 : 1 ≤ n) (h2 : n ≤ 4096) (h3 : a + n ≤ 1048577) (hF : ∀ t, AbsN 4 (F t)) (HS : Hid (∀ w : World, Calls Try.prog 89 #[.int .i64 a, .int .i64 (a + n)] w fun e w' => e = .returned (.int .i64 0) ∧ w = w')) (HF : Hid (∀ wx : World, Calls Try.prog 90 #[.string s] wx fun e w' => e = .returned (.tuple #[.agg #[.float .f64 c0, .float .f64 c1, .float .f64 c2], .bool true]) ∧ Below wx.heap.size wx w'))
    (HA : Hid (∀ t (wx : World), Calls Try.prog 49 #[.string s, .int .i64 t] wx fun e w' => e = .returned (.tuple #[.float .f64 (F t), .int .i64 (E t)]) ∧ Below wx.heap.size wx w')) :
    Calls Try.prog 34 #[.string s, .int .i64 a, .int .i64 (a + n)] w fun e w' => e = .returned (.tuple #[.float .f64 (fd (sumB F a n) (floatOfInt .f64 (n : Int))), .int .i64 0]) ∧ Below w.heap.size w w' := by
  have hb : (a == a + (n : Int)) = false := by rw [beq_eq_false_iff_ne]; omega
  have hs := hide_ (fun k hk => sumB_step hF a k hk)
  have hd := (mean_div (sumB_ok hF a n h2) h1 h2).1
  have gd := fun wx => run_float_arith (P := Try.prog) wx .quo 46 .f64 _ _ _ hd
  have hz : sumB F a 0 = 0 := rfl
  have hsub : a + (n : Int) - a = (n : Int) := by omega
  clear hd hF
  go_enter Try.func34, Try.ntmps34
  go_wp2_with (first
    | (go_at_call 89; (with_reducible refine (HS.out _).mono ?_); rintro e w1 ⟨rfl, rfl⟩)
    | (go_at_call 90; (with_reducible refine (HF.out _).mono ?_); rintro e w2 ⟨rfl, hb2⟩)
    | ((with_reducible apply wpList_store_new); (with_reducible rfl); (with_reducible rfl); rfl; rfl; kernel_rfl; rfl; kernel_rfl))
  have hg0 := Grew.of hb2
  clear hb2
  go_loopw [11, 12] (fun x i wr => ∃ k : Nat, k ≤ n ∧ x = .float .f64 (sumB F a k) ∧ i = .int .i64 (a + k) ∧ Grew w.heap.size w wr) (fun _ i _ => n - (intOf i - a).toNat)
  case atStart => exact ⟨0, by omega, rfl, by simp, by first | assumption | exact hg0.alloc _⟩
  case round =>
    obtain ⟨k, hk, rfl, rfl, hgr⟩ := hrel
    by_cases hlt : k < n
    · have ha := hs.out k (by omega)
      have ga := fun wx => run_float_arith (P := Try.prog) wx .add 46 .f64 _ _ _ ha
      clear ha gd hg0
      generalize hk1 : sumB F a (k + 1) = S1 at ga
      have HK1 := hide_ hk1
      clear hk1
      go_wp2_with (go_at_call 49; (with_reducible refine (HA.out _ _).mono ?_); rintro e w3 ⟨rfl, hb3⟩)
      go_roundw
      case rel => exact ⟨k + 1, by omega, by rw [HK1.out], by go_num, hgr.step hb3⟩
      case measure => simp [intOf]; omega
    · obtain rfl : k = n := by omega
      clear hg0
      go_wp2
      go_ret2
      exact ⟨rfl, hgr.below⟩
theorem rmean_e (s : ByteArray) (a b e1 : Int) (w : World) (h : e1 ≠ 0) (HS : Hid (∀ w : World, Calls Try.prog 91 #[.int .i64 a, .int .i64 b] w fun e w' => e = .returned (.int .i64 e1) ∧ w = w')) :
    Calls Try.prog 35 #[.string s, .int .i64 a, .int .i64 b] w fun e w' => e = .returned (.tuple #[.float .f64 0, .int .i64 e1]) ∧ Below w.heap.size w w' := by
  have hb : (e1 != 0) = true := by simpa using h
  clear h
  go_enter Try.func35, Try.ntmps35
  go_wp2_with (go_at_call 91; (with_reducible refine (HS.out _).mono ?_); rintro e w1 ⟨rfl, rfl⟩)
  go_ret2
  exact ⟨rfl, Below.refl _ _⟩
theorem rmean_z (s : ByteArray) (a b : Int) (w : World) (h : a = b) (HS : Hid (∀ w : World, Calls Try.prog 91 #[.int .i64 a, .int .i64 b] w fun e w' => e = .returned (.int .i64 0) ∧ w = w')) :
    Calls Try.prog 35 #[.string s, .int .i64 a, .int .i64 b] w fun e w' => e = .returned (.tuple #[.float .f64 0, .int .i64 2]) ∧ Below w.heap.size w w' := by
  subst h
  go_enter Try.func35, Try.ntmps35
  go_wp2_with (go_at_call 91; (with_reducible refine (HS.out _).mono ?_); rintro e w1 ⟨rfl, rfl⟩)
  go_ret2
  exact ⟨rfl, Below.refl _ _⟩
theorem rmean_m (s : ByteArray) (a b : Int) (c0 c1 c2 : Nat) (w : World) (h : ¬ a = b) (HS : Hid (∀ w : World, Calls Try.prog 91 #[.int .i64 a, .int .i64 b] w fun e w' => e = .returned (.int .i64 0) ∧ w = w')) (HF : Hid (∀ wx : World, Calls Try.prog 92 #[.string s] wx fun e w' => e = .returned (.tuple #[.float .f64 c0, .float .f64 c1, .float .f64 c2, .bool false]) ∧ Below wx.heap.size wx w')) :
    Calls Try.prog 35 #[.string s, .int .i64 a, .int .i64 b] w fun e w' => e = .returned (.tuple #[.float .f64 0, .int .i64 6]) ∧ Below w.heap.size w w' := by
  have hb : (a == b) = false := by simpa using h
  go_enter Try.func35, Try.ntmps35
  go_wp2_with (first
    | (go_at_call 91; (with_reducible refine (HS.out _).mono ?_); rintro e w1 ⟨rfl, rfl⟩)
    | (go_at_call 92; (with_reducible refine (HF.out _).mono ?_); rintro e w2 ⟨rfl, hb2⟩)
    | ((with_reducible apply wpList_store_new); (with_reducible rfl); (with_reducible rfl); rfl; rfl; kernel_rfl; rfl; kernel_rfl))
  go_ret2
  have hg0 := Grew.of hb2
  exact ⟨rfl, by exact Grew.below (by repeat (first | exact Grew.refl _ | assumption | refine Grew.alloc ?_ _ | refine Grew.drewN ?_ _ | refine Grew.drew ?_ | refine Grew.setRow ?_ (by first | assumption | (simp; done) | (simp; omega) | omega) _ | refine Grew.setCell ?_ (by first | assumption | (simp; done) | (simp; omega) | omega) _ | refine Grew.step ?_ (by assumption)))⟩
set_option maxHeartbeats 800000 in
theorem rmean_o (s : ByteArray) (a : Int) (n : Nat) (c0 c1 c2 : Nat) (F : Int → Nat) (E : Int → Int) (w : World) (h0 : 0 ≤ a) (h1 : 1 ≤ n) (h2 : n ≤ 4096) (h3 : a + n ≤ 1048577) (hF : ∀ t, AbsN 4 (F t)) (HS : Hid (∀ w : World, Calls Try.prog 91 #[.int .i64 a, .int .i64 (a + n)] w fun e w' => e = .returned (.int .i64 0) ∧ w = w')) (HF : Hid (∀ wx : World, Calls Try.prog 92 #[.string s] wx fun e w' => e = .returned (.tuple #[.float .f64 c0, .float .f64 c1, .float .f64 c2, .bool true]) ∧ Below wx.heap.size wx w'))
    (HA : Hid (∀ t (wx : World), Calls Try.prog 68 #[.string s, .int .i64 t] wx fun e w' => e = .returned (.tuple #[.float .f64 (F t), .int .i64 (E t)]) ∧ Below wx.heap.size wx w')) :
    Calls Try.prog 35 #[.string s, .int .i64 a, .int .i64 (a + n)] w fun e w' => e = .returned (.tuple #[.float .f64 (fd (sumB F a n) (floatOfInt .f64 (n : Int))), .int .i64 0]) ∧ Below w.heap.size w w' := by
  have hb : (a == a + (n : Int)) = false := by rw [beq_eq_false_iff_ne]; omega
  have hs := hide_ (fun k hk => sumB_step hF a k hk)
  have hd := (mean_div (sumB_ok hF a n h2) h1 h2).1
  have gd := fun wx => run_float_arith (P := Try.prog) wx .quo 46 .f64 _ _ _ hd
  have hz : sumB F a 0 = 0 := rfl
  have hsub : a + (n : Int) - a = (n : Int) := by omega
  clear hd hF
  go_enter Try.func35, Try.ntmps35
  go_wp2_with (first
    | (go_at_call 91; (with_reducible refine (HS.out _).mono ?_); rintro e w1 ⟨rfl, rfl⟩)
    | (go_at_call 92; (with_reducible refine (HF.out _).mono ?_); rintro e w2 ⟨rfl, hb2⟩)
    | ((with_reducible apply wpList_store_new); (with_reducible rfl); (with_reducible rfl); rfl; rfl; kernel_rfl; rfl; kernel_rfl))
  have hg0 := Grew.of hb2
  clear hb2
  go_loopw [13, 14] (fun x i wr => ∃ k : Nat, k ≤ n ∧ x = .float .f64 (sumB F a k) ∧ i = .int .i64 (a + k) ∧ Grew w.heap.size w wr) (fun _ i _ => n - (intOf i - a).toNat)
  case atStart => exact ⟨0, by omega, rfl, by simp, by first | assumption | exact hg0.alloc _⟩
  case round =>
    obtain ⟨k, hk, rfl, rfl, hgr⟩ := hrel
    by_cases hlt : k < n
    · have ha := hs.out k (by omega)
      have ga := fun wx => run_float_arith (P := Try.prog) wx .add 46 .f64 _ _ _ ha
      clear ha gd hg0
      generalize hk1 : sumB F a (k + 1) = S1 at ga
      have HK1 := hide_ hk1
      clear hk1
      go_wp2_with (go_at_call 68; (with_reducible refine (HA.out _ _).mono ?_); rintro e w3 ⟨rfl, hb3⟩)
      go_roundw
      case rel => exact ⟨k + 1, by omega, by rw [HK1.out], by go_num, hgr.step hb3⟩
      case measure => simp [intOf]; omega
    · obtain rfl : k = n := by omega
      clear hg0
      go_wp2
      go_ret2
      exact ⟨rfl, hgr.below⟩
/-- Both means, of any name and span. -/
theorem mean_alike (s : ByteArray) (a b : Int) : ∃ (f : Nat) (v e1 : Int), Fin64 f v ∧
    (∀ wx : World, Calls Try.prog 34 #[.string s, .int .i64 a, .int .i64 b] wx fun e w' => e = .returned (.tuple #[.float .f64 f, .int .i64 e1]) ∧ Below wx.heap.size wx w') ∧
    (∀ wx : World, Calls Try.prog 35 #[.string s, .int .i64 a, .int .i64 b] wx fun e w' => e = .returned (.tuple #[.float .f64 f, .int .i64 e1]) ∧ Below wx.heap.size wx w') := by
  have hz : Fin64 0 0 := by have h := pos_const 0 (by decide); rwa [valR_low (by decide)] at h
  obtain ⟨e1, hin, s1, s2⟩ := span_alike a b
  by_cases he : e1 = 0
  · subst he
    obtain ⟨h0, h1, h2, h3⟩ := hin rfl
    by_cases hab : a = b
    · exact ⟨0, 0, 2, hz, fun wx => mean_z s a b wx hab (hide_ s1), fun wx => rmean_z s a b wx hab (hide_ s2)⟩
    obtain ⟨c0, c1, c2, bb, hb, f1, f2⟩ := find_alike12 s
    cases bb with
    | false => exact ⟨0, 0, 6, hz, fun wx => mean_m s a b c0 c1 c2 wx hab (hide_ s1) (hide_ f1), fun wx => rmean_m s a b c0 c1 c2 wx hab (hide_ s2) (hide_ f2)⟩
    | true =>
      obtain ⟨F, E, hFE⟩ := fac_fun s
      obtain ⟨n, hn⟩ : ∃ n : Nat, b = a + n := ⟨(b - a).toNat, by omega⟩
      subst hn
      obtain ⟨v, hv⟩ := (mean_div (sumB_ok (fun t => (hFE t).1) a n (by omega)) (by omega) (by omega)).2
      exact ⟨_, v, 0, hv, fun wx => mean_o s a n c0 c1 c2 F E wx h0 (by omega) (by omega) h1 (fun t => (hFE t).1) (hide_ s1) (hide_ f1) (hide_ (fun t => (hFE t).2.1)),
        fun wx => rmean_o s a n c0 c1 c2 F E wx h0 (by omega) (by omega) h1 (fun t => (hFE t).1) (hide_ s2) (hide_ f2) (hide_ (fun t => (hFE t).2.2))⟩
  · exact ⟨0, 0, e1, hz, fun wx => mean_e s a b e1 wx he (hide_ s1), fun wx => rmean_e s a b e1 wx he (hide_ s2)⟩
end Go.Proofs.Ytklhdpkofpkmjaa
