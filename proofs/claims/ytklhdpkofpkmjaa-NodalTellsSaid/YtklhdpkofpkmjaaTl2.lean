/- Chapter 12: a name's turn in the reference; the start of its Times. -/
import Derived.Test.YtklhdpkofpkmjaaTm3
import Derived.Test.YtklhdpkofpkmjaaFl9
namespace Go.Proofs.Ytklhdpkofpkmjaa
open Go.RowKit Ieee
set_option linter.unusedVariables false
set_option maxRecDepth 100000
theorem rte_tr {x : Nat} {v : Int} (h : Fin64 x v) : trN x - 1 ≤ rteN x ∧ rteN x ≤ trN x + 1 := by
  have hnr := rte_near h
  have htr := tr_spec h
  have hU := p74_pos
  unfold NearP at hnr
  constructor
  · rcases Int.lt_or_le (rteN x) (trN x - 1) with h' | h'
    · exfalso
      have h1 : rteN x * (P74 : Int) ≤ (trN x - 2) * (P74 : Int) := Int.mul_le_mul_of_nonneg_right (by omega) (Int.le_of_lt hU)
      rw [Int.sub_mul] at h1
      rcases Int.le_total 0 v with h2 | h2
      · have := (htr.1 h2).1; omega
      · have := (htr.2 h2).2; omega
    · exact h'
  · rcases Int.lt_or_le (trN x + 1) (rteN x) with h' | h'
    · exfalso
      have h1 : (trN x + 2) * (P74 : Int) ≤ rteN x * (P74 : Int) := Int.mul_le_mul_of_nonneg_right (by omega) (Int.le_of_lt hU)
      rw [Int.add_mul] at h1
      rcases Int.le_total 0 v with h2 | h2
      · have := (htr.1 h2).2; omega
      · have := (htr.2 h2).1; omega
    · exact h'
theorem toInt_tr {x : Nat} {v : Int} (h : Fin64 x v) (hb : -9000000000000000 ≤ trN x ∧ trN x ≤ 9000000000000000) : floatToIntVal .f64 x .i64 = some (trN x) := by
  obtain ⟨s, m, i, rx, hi, rfl⟩ := h.ex
  have e : (FloatKind.f64.decode x).toInt .zero = some (trN x) := by
    show (double.read x).toInt .zero = _
    unfold trN
    rw [rx]
    rfl
  unfold floatToIntVal
  rw [e]
  have hbb : IntKind.i64.min ≤ trN x ∧ trN x ≤ IntKind.i64.max := by
    have m1 : IntKind.i64.min = -9223372036854775808 := by decide
    have m2 : IntKind.i64.max = 9223372036854775807 := by decide
    omega
  simp only [hbb, and_self, if_true]
set_option maxHeartbeats 4000000 in
theorem nearest_ok {x : Nat} (h : AbsN 262144 x) (w : World) : Calls Try.prog 108 #[.float .f64 x] w fun e w' => e = .returned (.int .i64 (rteN x)) ∧ w = w' := by
  have hle := rteN_le h
  obtain ⟨v, hf, _⟩ := h
  have hrt := rte_tr hf
  have g3 := toInt_tr hf (by omega)
  have HT := hide_ (fun k hk h1 h2 => tst_near hf k hk h1 h2)
  have g4 := fun wx : World => run_convert_float_int (P := Try.prog) (w := wx) 46 2 .f64 .i64 x (trN x) (by kernel_rfl) Try.underlying2 g3
  clear g3 hf
  generalize trN x = n at *
  generalize rteN x = K at *
  go_enter Try.func108, Try.ntmps108
  go_wp2
  go_loop [4] (fun i => ∃ k : Int, i = .int .i64 k ∧ n - 1 ≤ k ∧ k ≤ K) (fun i => (K + 1 - intOf i).toNat)
  case atStart => exact ⟨n - 1, rfl, by omega, by omega⟩
  case round =>
    obtain ⟨k, rfl, hk1, hk2⟩ := hrel
    obtain ⟨hs, ht⟩ := HT.out k (by omega) hk1 hk2
    have gs := fun wx => run_float_arith (P := Try.prog) wx .sub 46 .f64 _ _ _ hs
    generalize fs x (floatOfInt .f64 k) = d at *
    obtain ⟨r, hr⟩ : ∃ r, k.tmod 2 = r := ⟨_, rfl⟩
    have hkn : k ≤ n + 1 := by omega
    unfold tst NHALF HALF at ht
    rw [hr] at ht
    by_cases hkK : k = K
    · rw [decide_eq_true hkK] at ht
      have HK := hide_ hkK
      clear hs hkK
      cases hb1 : (double.order d 13826050856027422720 == some .gt) <;> cases hb2 : (double.order d 4602678819172646912 == some .lt) <;> cases hb3 : (double.order d 4602678819172646912 == some .eq) <;> cases hb4 : (double.order d 13826050856027422720 == some .eq) <;> cases hb5 : (r == 0)
      all_goals
        rw [hb1, hb2, hb3, hb4, hb5] at ht
        first
          | (exfalso; revert ht; decide)
          | (clear ht
             have hb1' : (FloatKind.f64.format.order d 13826050856027422720 == some .gt) = _ := hb1
             have hb2' : (FloatKind.f64.format.order d 4602678819172646912 == some .lt) = _ := hb2
             have hb3' : (FloatKind.f64.format.order d 4602678819172646912 == some .eq) = _ := hb3
             have hb4' : (FloatKind.f64.format.order d 13826050856027422720 == some .eq) = _ := hb4
             clear hb1 hb2 hb3 hb4
             go_wp2
             go_ret
             have hKK := HK.out
             subst hKK
             exact ⟨rfl, rfl⟩)
    · rw [decide_eq_false hkK] at ht
      clear hs
      cases hb1 : (double.order d 13826050856027422720 == some .gt) <;> cases hb2 : (double.order d 4602678819172646912 == some .lt) <;> cases hb3 : (double.order d 4602678819172646912 == some .eq) <;> cases hb4 : (double.order d 13826050856027422720 == some .eq) <;> cases hb5 : (r == 0)
      all_goals
        rw [hb1, hb2, hb3, hb4, hb5] at ht
        first
          | (exfalso; revert ht; decide)
          | (clear ht
             have hb1' : (FloatKind.f64.format.order d 13826050856027422720 == some .gt) = _ := hb1
             have hb2' : (FloatKind.f64.format.order d 4602678819172646912 == some .lt) = _ := hb2
             have hb3' : (FloatKind.f64.format.order d 4602678819172646912 == some .eq) = _ := hb3
             have hb4' : (FloatKind.f64.format.order d 13826050856027422720 == some .eq) = _ := hb4
             clear hb1 hb2 hb3 hb4
             go_wp2
             go_round
             case rel => exact ⟨k + 1, rfl, by omega, by omega⟩
             case measure => simp [intOf]; omega)
end Go.Proofs.Ytklhdpkofpkmjaa
namespace Go.Proofs.Ytklhdpkofpkmjaa
open Go.RowKit Ieee
set_option linter.unusedVariables false
set_option maxRecDepth 100000
theorem rturn_e (s : ByteArray) (t e1 : Int) (w : World) (h : e1 ≠ 0) (HN : Hid (∀ wx : World, Calls Try.prog 67 #[.int .i64 t] wx fun e w' => e = .returned (.tuple #[.complex .f64 0 0, .int .i64 e1]) ∧ Below wx.heap.size wx w')) :
    Calls Try.prog 69 #[.string s, .int .i64 t] w fun e w' => e = .returned (.tuple #[.agg #[.int .i64 0, .int .i64 0], .int .i64 e1]) ∧ Below w.heap.size w w' := by
  have hb : (e1 != 0) = true := by simpa using h
  clear h
  go_enter Try.func69, Try.ntmps69
  go_wp2_with (first
    | (go_at_call 67; (with_reducible refine (HN.out _).mono ?_); rintro e w1 ⟨rfl, hb1⟩; have n1 := blk_below hb1)
    | ((with_reducible apply wpList_store_blk); (with_reducible rfl); (with_reducible rfl); rfl; assumption; rfl; kernel_rfl; rfl; kernel_rfl))
  refine ret_ct rfl _ 35 _ _ rfl (setRow_heap _ _ _ _ _ _ n1) Try.underlying35 rfl (by kernel_rfl) rfl ⟨rfl, ?_⟩
  have hg0 := ((Grew.refl w).alloc (.cells #[.int .i64 0, .int .i64 0] 35)).step hb1
  exact Grew.below (by repeat (first | exact Grew.refl _ | assumption | refine Grew.alloc ?_ _ | refine Grew.drewN ?_ _ | refine Grew.drew ?_ | refine Grew.setRow ?_ (by first | assumption | (simp; done) | (simp; omega) | omega) _ | refine Grew.setCell ?_ (by first | assumption | (simp; done) | (simp; omega) | omega) _ | refine Grew.step ?_ (by assumption)))
theorem rturn_m (s : ByteArray) (t : Int) (re im c0 c1 c2 : Nat) (w : World) (HN : Hid (∀ wx : World, Calls Try.prog 67 #[.int .i64 t] wx fun e w' => e = .returned (.tuple #[.complex .f64 re im, .int .i64 0]) ∧ Below wx.heap.size wx w'))
    (HF : Hid (∀ wx : World, Calls Try.prog 92 #[.string s] wx fun e w' => e = .returned (.tuple #[.float .f64 c0, .float .f64 c1, .float .f64 c2, .bool false]) ∧ Below wx.heap.size wx w')) :
    Calls Try.prog 69 #[.string s, .int .i64 t] w fun e w' => e = .returned (.tuple #[.agg #[.int .i64 0, .int .i64 0], .int .i64 6]) ∧ Below w.heap.size w w' := by
  go_enter Try.func69, Try.ntmps69
  go_wp2_with (first
    | (go_at_call 67; (with_reducible refine (HN.out _).mono ?_); rintro e w1 ⟨rfl, hb1⟩; have n1 := blk_below hb1)
    | (go_at_call 92; (with_reducible refine (HF.out _).mono ?_); rintro e w2 ⟨rfl, hb2⟩; have n2 := (hb2.block _ (lt_of_heap n1)).trans n1)
    | ((with_reducible apply wpList_store_blk); (with_reducible rfl); (with_reducible rfl); rfl; assumption; rfl; kernel_rfl; rfl; kernel_rfl))
  refine ret_ct rfl _ 35 _ _ rfl (setRow_heap _ _ _ _ _ _ n2) Try.underlying35 rfl (by kernel_rfl) rfl ⟨rfl, ?_⟩
  have hg0 := ((Grew.refl w).alloc (.cells #[.int .i64 0, .int .i64 0] 35)).step hb1
  exact Grew.below (by repeat (first | exact Grew.refl _ | assumption | refine Grew.alloc ?_ _ | refine Grew.drewN ?_ _ | refine Grew.drew ?_ | refine Grew.setRow ?_ (by first | assumption | (simp; done) | (simp; omega) | omega) _ | refine Grew.setCell ?_ (by first | assumption | (simp; done) | (simp; omega) | omega) _ | refine Grew.step ?_ (by assumption)))
theorem rturn_o (s : ByteArray) (t : Int) (re im c0 c1 c2 : Nat) (w : World) (hm : double.mul c2 im = some (fm c2 im)) (ha : AbsN 262144 (fm c2 im)) (HN : Hid (∀ wx : World, Calls Try.prog 67 #[.int .i64 t] wx fun e w' => e = .returned (.tuple #[.complex .f64 re im, .int .i64 0]) ∧ Below wx.heap.size wx w'))
    (HF : Hid (∀ wx : World, Calls Try.prog 92 #[.string s] wx fun e w' => e = .returned (.tuple #[.float .f64 c0, .float .f64 c1, .float .f64 c2, .bool true]) ∧ Below wx.heap.size wx w')) :
    Calls Try.prog 69 #[.string s, .int .i64 t] w fun e w' => e = .returned (.tuple #[.agg (turnV (tnP c2 im) 3600000), .int .i64 0]) ∧ Below w.heap.size w w' := by
  have g1 := fun wx => run_float_arith (P := Try.prog) wx .mul 46 .f64 _ _ _ hm
  have HB := hide_ (fun wx => nearest_ok ha wx)
  have hN := rteN_le ha
  have ho := fun wx => turned_ok (rteN (fm c2 im)) (tnP c2 im) 3600000 wx (by omega) (by omega) (by omega) (by omega) (by unfold tnP; omega)
  obtain ⟨X, Y, e1⟩ := turnV_two (tnP c2 im) 3600000
  rw [e1] at ho ⊢
  clear e1
  have HO : Hid (∀ wx : World, Calls Try.prog 107 #[.int .i64 (rteN (fm c2 im)), .int .i64 3600000] wx fun e w' => e = .returned (.agg #[.int .i64 X, .int .i64 Y]) ∧ Below wx.heap.size wx w') := hide_ ho
  clear ho
  generalize rteN (fm c2 im) = N at *
  generalize fm c2 im = m at *
  clear hm ha hN
  go_enter Try.func69, Try.ntmps69
  go_wp2_with (first
    | (go_at_call 67; (with_reducible refine (HN.out _).mono ?_); rintro e w1 ⟨rfl, hb1⟩; have n1 := blk_below hb1)
    | (go_at_call 92; (with_reducible refine (HF.out _).mono ?_); rintro e w2 ⟨rfl, hb2⟩; have n2 := (hb2.block _ (lt_of_heap n1)).trans n1)
    | (go_at_call 108; (with_reducible refine (HB.out _).mono ?_); rintro e w3 ⟨rfl, rfl⟩)
    | (go_at_call 107; (with_reducible refine (HO.out _).mono ?_); rintro e w4 ⟨rfl, hb4⟩; have n4 := (hb4.block _ (lt_of_heap n2)).trans n2)
    | ((with_reducible apply wpList_store_blk); (with_reducible rfl); (with_reducible rfl); rfl; assumption; rfl; kernel_rfl; rfl; kernel_rfl))
  refine ret_ct rfl _ 35 _ _ rfl (setRow_heap _ _ _ _ _ _ n4) Try.underlying35 rfl (by kernel_rfl) rfl ⟨rfl, ?_⟩
  have hg0 := ((Grew.refl w).alloc (.cells #[.int .i64 0, .int .i64 0] 35)).step hb1
  exact Grew.below (by repeat (first | exact Grew.refl _ | assumption | refine Grew.alloc ?_ _ | refine Grew.drewN ?_ _ | refine Grew.drew ?_ | refine Grew.setRow ?_ (by first | assumption | (simp; done) | (simp; omega) | omega) _ | refine Grew.setCell ?_ (by first | assumption | (simp; done) | (simp; omega) | omega) _ | refine Grew.step ?_ (by assumption)))
/-- The reference's calls of a name of the table. -/
theorem rname_calls (s : ByteArray) (t : Int) (h0 : 0 ≤ t) (h1 : t ≤ 1048576) (hb : isN s = true) :
    (∀ wx : World, Calls Try.prog 68 #[.string s, .int .i64 t] wx fun e w' => e = .returned (.tuple #[.float .f64 (sF t s), .int .i64 0]) ∧ Below wx.heap.size wx w') ∧
    (∀ wx : World, Calls Try.prog 69 #[.string s, .int .i64 t] wx fun e w' => e = .returned (.tuple #[.agg #[.int .i64 (tX (sT t s)), .int .i64 (tY (sT t s))], .int .i64 0]) ∧ Below wx.heap.size wx w') := by
  have hx : rowIx s < 7 := by simpa [isN] using hb
  have hr := rowOk_ix (rowIx s) hx (nRe_abs t) (nIm_abs t)
  have hf := (find_ix s).2
  rw [hb] at hf
  unfold sc0 sc1 sc2 at hf
  rw [if_pos hx, if_pos hx, if_pos hx] at hf
  have hN := hide_ (fun wx => rnode_ok t wx h0 h1)
  exact ⟨fun wx => rfactor_o s t _ _ _ _ _ _ _ wx hr.m1 hr.a1 hN (hide_ hf), fun wx => rturn_o s t _ _ _ _ _ wx hr.m2 hr.n2 hN (hide_ hf)⟩
theorem rname_none (s : ByteArray) (t : Int) (h0 : 0 ≤ t) (h1 : t ≤ 1048576) (hb : isN s = false) :
    (∀ wx : World, Calls Try.prog 68 #[.string s, .int .i64 t] wx fun e w' => e = .returned (.tuple #[.float .f64 0, .int .i64 6]) ∧ Below wx.heap.size wx w') ∧
    (∀ wx : World, Calls Try.prog 69 #[.string s, .int .i64 t] wx fun e w' => e = .returned (.tuple #[.agg #[.int .i64 0, .int .i64 0], .int .i64 6]) ∧ Below wx.heap.size wx w') := by
  have hf := (find_ix s).2
  rw [hb] at hf
  have hN := hide_ (fun wx => rnode_ok t wx h0 h1)
  exact ⟨fun wx => rfactor_m s t _ _ _ _ _ wx hN (hide_ hf), fun wx => rturn_m s t _ _ _ _ _ wx hN (hide_ hf)⟩
/-- The plain sum of the first k turns. -/
def sumQ (T : Nat → Nat) : Nat → Nat
  | 0 => 0
  | k + 1 => sumQ T k + T k
theorem sumQ_mod (T : Nat → Nat) (k : Nat) : sumQ T k % 3600000 = sumP T k := by
  induction k with
  | zero => rfl
  | succ k ih => show (sumQ T k + T k) % 3600000 = (sumP T k + T k) % 3600000; omega
theorem sumQ_le {T : Nat → Nat} {n : Nat} (hT : ∀ j, j < n → T j < 3600000) (k : Nat) (hk : k ≤ n) : sumQ T k ≤ 3600000 * k := by
  induction k with
  | zero => exact Nat.zero_le _
  | succ k ih => have := ih (by omega); have := hT k (by omega); show sumQ T k + T k ≤ _; omega
set_option maxHeartbeats 3200000 in
theorem rtimes_long (v : Option Addr) (n c : Nat) (t : Int) (w : World) (h : 8 < n) (h2 : n ≤ 1048576) : Calls Try.prog 71 #[.slice v n c, .int .i64 t] w fun e w' =>
    e = .returned (.tuple #[.float .f64 0, .agg #[.int .i64 0, .int .i64 0], .agg #[.int .i64 3, .int .i64 (-1)]]) ∧ Below w.heap.size w w' := by
  obtain ⟨a0, a1⟩ := two_blocks w #[.int .i64 0, .int .i64 0] #[.int .i64 0, .int .i64 0] 35 79
  have b0 := heap_past (o' := .cells #[.int .i64 0, .int .i64 0] 35) a0
  have b1 := heap_past (o' := .cells #[.int .i64 0, .int .i64 0] 35) a1
  have b2 := heap_at2 w (.cells #[.int .i64 0, .int .i64 0] 35) (.cells #[.int .i64 0, .int .i64 0] 79) (.cells #[.int .i64 0, .int .i64 0] 35)
  obtain ⟨p0, p1⟩ := cells_two b0
  obtain ⟨p2, p3⟩ := cells_two b1
  obtain ⟨p4, p5⟩ := cells_two b2
  obtain ⟨q0, q1⟩ := free_two b0
  obtain ⟨q2, q3⟩ := free_two b1
  obtain ⟨m0, m1⟩ := four_set (x := .int .i64 0) (y := .int .i64 0) (z := .int .i64 3) (u := .int .i64 (-1)) b0 b1
  go_enter Try.func71, Try.ntmps71
  go_wp2_with ((with_reducible apply wpList_store_new); (with_reducible rfl); (with_reducible rfl); rfl; rfl; kernel_rfl; rfl; kernel_rfl)
  have hg := (((Grew.refl w).alloc (.cells #[.int .i64 0, .int .i64 0] 35)).alloc (.cells #[.int .i64 0, .int .i64 0] 79)).alloc (.cells #[.int .i64 0, .int .i64 0] 35)
  generalize ((w.alloc (.cells #[.int .i64 0, .int .i64 0] 35)).alloc (.cells #[.int .i64 0, .int .i64 0] 79)).alloc (.cells #[.int .i64 0, .int .i64 0] 35) = W at *
  go_region
  go_wp2
  refine ret_tcc rfl _ _ 35 79 _ _ _ _ rfl m0 Try.underlying35 rfl (by kernel_rfl) rfl m1 Try.underlying79 rfl (by kernel_rfl) rfl ⟨rfl, ?_⟩
  exact (((((hg.setCell (by simp) _).setCell (by simp) _).setCell (by simp) _).setCell (by simp) _).drew).below
end Go.Proofs.Ytklhdpkofpkmjaa
