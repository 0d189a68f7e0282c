/- The contract of the reference's Root (chapter 8). -/
import Derived.Test.YtklhdpkofpkmjaaRo3
namespace Go.Proofs.Ytklhdpkofpkmjaa
open Go.RowKit Ieee
set_option linter.unusedVariables false
set_option maxRecDepth 100000
def ngB (x : Nat) : Nat := Op.negFloat .f64 x
theorem re_at (e s c : Nat) (he : e < 8) : (#[.float .f64 c, .float .f64 s, .float .f64 (ngB s), .float .f64 (ngB c), .float .f64 (ngB c), .float .f64 (ngB s), .float .f64 s, .float .f64 c] : Array Value)[e]? = some (.float .f64 (reB e s c)) := by
  rcases (show e = 0 ∨ e = 1 ∨ e = 2 ∨ e = 3 ∨ e = 4 ∨ e = 5 ∨ e = 6 ∨ e = 7 by omega) with rfl | rfl | rfl | rfl | rfl | rfl | rfl | rfl <;> rfl
theorem im_at (e s c : Nat) (he : e < 8) : (#[.float .f64 s, .float .f64 c, .float .f64 c, .float .f64 s, .float .f64 (ngB s), .float .f64 (ngB c), .float .f64 (ngB c), .float .f64 (ngB s)] : Array Value)[e]? = some (.float .f64 (imB e s c)) := by
  rcases (show e = 0 ∨ e = 1 ∨ e = 2 ∨ e = 3 ∨ e = 4 ∨ e = 5 ∨ e = 6 ∨ e = 7 by omega) with rfl | rfl | rfl | rfl | rfl | rfl | rfl | rfl <;> rfl
theorem run_ngF (x : Nat) (w : World) : (Op.unary UnOp.neg (Value.float .f64 x)).run Try.prog w = .ok (.float .f64 (ngB x)) w := rfl
set_option maxHeartbeats 1600000 in
theorem root8_ok (x q : Nat) (w : World) (hx : x < q) (hq : q ≤ 4294967296) (hc : Nat.gcd x q = 1) :
    Calls Try.prog 106 #[.agg #[.int .i64 (x : Int), .int .i64 (q : Int)]] w fun e w' => e = .returned (.tuple #[.complex .f64 (rootRe x q) (rootIm x q), .int .i64 0]) ∧ Below w.heap.size w w' := by
  have HK := hide_ (fun wx => check8_ok x q wx hx hq hc)
  have hyo := rootY_yok x q (by omega) hq
  obtain ⟨rf, rfp⟩ := rootF_ok _ _ (rootA_le x q (by omega)) (by omega) hq
  have ry := rootY_ok rfp
  have hE8 : 8 * x / q < 8 := Nat.div_lt_of_lt_mul (by omega)
  unfold rootRe rootIm
  have hA : ((rootA x q : Nat) : Int) = if 8 * x / q % 2 = 1 then (q : Int) - ((8 * x % q : Nat) : Int) else ((8 * x % q : Nat) : Int) := by
    have := Nat.mod_lt (8 * x) (show 0 < q by omega)
    unfold rootA
    split <;> omega
  have hM : 8 * x % q < q := Nat.mod_lt _ (by omega)
  have hdv : (8 * (x : Int)).tdiv (q : Int) = ((8 * x / q : Nat) : Int) := by
    rw [Int.tdiv_eq_ediv_of_nonneg (by omega)]; rfl
  have hmd : (8 * (x : Int)).tmod (q : Int) = ((8 * x % q : Nat) : Int) := by
    rw [Int.tmod_eq_emod_of_nonneg (by omega)]; rfl
  rw [hA] at rf
  generalize hrF : rootF (rootA x q) q = F at *
  have hrY : rootY (rootA x q) q = fm F PI4 := by unfold rootY; rw [hrF]
  rw [hrY] at hyo ⊢
  clear hrF hrY hA rfp
  generalize fm F PI4 = y at *
  have ry1 := ry.1
  clear ry
  generalize 8 * x / q = E at *
  generalize 8 * x % q = M at *
  have HSN := hide_ (fun wx => rsin_ok y (fm y y) hyo.s _ _ _ hyo.yq hyo.ys hyo.sin wx)
  have HCN := hide_ (fun wx => rcos_ok (fm y y) hyo.c _ _ hyo.qc hyo.cos wx)
  have h1 := hyo.q
  clear hyo
  generalize sinB y = sn at *
  generalize cosB y = cn at *
  generalize fm y y = Q at *
  have g0 := fun wx => run_float_arith (P := Try.prog) wx .quo 46 .f64 _ _ _ rf
  have g1 := fun wx => run_float_arith (P := Try.prog) wx .mul 46 .f64 _ _ _ ry1
  have g2 := fun wx => run_float_arith (P := Try.prog) wx .mul 46 .f64 _ _ _ h1
  have hre := re_at E sn cn hE8
  have him := im_at E sn cn hE8
  generalize reB E sn cn = RE at *
  generalize imB E sn cn = IM at *
  have ns := run_ngF sn
  have nc := run_ngF cn
  generalize ngB sn = nsn at *
  generalize ngB cn = ncn at *
  clear rf ry1 h1
  have hfb := frombits
  have hq0 : ((q : Int) == 0) = false := by rw [beq_eq_false_iff_ne]; omega
  have he2 : (E : Int).tmod 2 = ((E % 2 : Nat) : Int) := by rw [Int.tmod_eq_emod_of_nonneg (by omega)]; rfl
  have hE0 : (0 : Int) ≤ (E : Int) := by omega
  have hE8i : (E : Int) < 8 := by omega
  unfold PI4 at hfb g1
  by_cases hp : E % 2 = 1
  · have hpb : (((E % 2 : Nat) : Int) == 1) = true := by rw [beq_iff_eq]; omega
    rw [if_pos hp] at g0
    clear hp
    go_enter Try.func106, Try.ntmps106
    go_wp2_with (first
      | (go_at_call 115; (with_reducible refine (HK.out _).mono ?_); rintro e w1 ⟨rfl, hb1⟩; obtain ⟨c0, c1⟩ := cells_two (blk_below hb1))
      | (go_at_call 124; (with_reducible refine (HSN.out _).mono ?_); rintro e w2 ⟨rfl, hb2⟩)
      | (go_at_call 125; (with_reducible refine (HCN.out _).mono ?_); rintro e w3 ⟨rfl, hb3⟩; have k2 := heap_at1 w3 (.cells #[.float .f64 cn, .float .f64 sn, .float .f64 nsn, .float .f64 ncn, .float .f64 ncn, .float .f64 nsn, .float .f64 sn, .float .f64 cn] 143) (.cells #[.float .f64 0, .float .f64 0, .float .f64 0, .float .f64 0, .float .f64 0, .float .f64 0, .float .f64 0, .float .f64 0] 143))
      | ((with_reducible apply wpList_store_new); (with_reducible rfl); (with_reducible rfl); rfl; rfl; kernel_rfl; rfl; kernel_rfl)
      | ((with_reducible apply wpList_store_blk); (with_reducible rfl); (with_reducible rfl); rfl; assumption; rfl; kernel_rfl; rfl; kernel_rfl))
    have hr1 := (cell_of_row (((w3.alloc (.cells #[.float .f64 cn, .float .f64 sn, .float .f64 nsn, .float .f64 ncn, .float .f64 ncn, .float .f64 nsn, .float .f64 sn, .float .f64 cn] 143)).alloc (.cells #[.float .f64 0, .float .f64 0, .float .f64 0, .float .f64 0, .float .f64 0, .float .f64 0, .float .f64 0, .float .f64 0] 143)).setRow (w3.heap.size + 1) #[.float .f64 sn, .float .f64 cn, .float .f64 cn, .float .f64 sn, .float .f64 nsn, .float .f64 ncn, .float .f64 ncn, .float .f64 nsn]) w3.heap.size E _ _ _ ((setRow_other _ _ _ _ (by omega)).trans (heap_past (heap_alloc_last _ _)))).trans hre
    have hr2 := (cell_of_row (((w3.alloc (.cells #[.float .f64 cn, .float .f64 sn, .float .f64 nsn, .float .f64 ncn, .float .f64 ncn, .float .f64 nsn, .float .f64 sn, .float .f64 cn] 143)).alloc (.cells #[.float .f64 0, .float .f64 0, .float .f64 0, .float .f64 0, .float .f64 0, .float .f64 0, .float .f64 0, .float .f64 0] 143)).setRow (w3.heap.size + 1) #[.float .f64 sn, .float .f64 cn, .float .f64 cn, .float .f64 sn, .float .f64 nsn, .float .f64 ncn, .float .f64 ncn, .float .f64 nsn]) (w3.heap.size + 1) E _ _ _ (setRow_heap _ _ _ _ _ _ k2)).trans him
    have hgo : Grew w.heap.size w (((w3.alloc (.cells #[.float .f64 cn, .float .f64 sn, .float .f64 nsn, .float .f64 ncn, .float .f64 ncn, .float .f64 nsn, .float .f64 sn, .float .f64 cn] 143)).alloc (.cells #[.float .f64 0, .float .f64 0, .float .f64 0, .float .f64 0, .float .f64 0, .float .f64 0, .float .f64 0, .float .f64 0] 143)).setRow (w3.heap.size + 1) #[.float .f64 sn, .float .f64 cn, .float .f64 cn, .float .f64 sn, .float .f64 nsn, .float .f64 ncn, .float .f64 ncn, .float .f64 nsn]) := by
      have hg0 := (((Grew.refl w).alloc (.cells #[.int .i64 x, .int .i64 q] 35)).step hb1)
      have hg3 := (hg0.step hb2).step hb3
      have hs3 := hg3.2
      exact ((hg3.alloc _).alloc _).setRow (by omega) _
    generalize (((w3.alloc (.cells #[.float .f64 cn, .float .f64 sn, .float .f64 nsn, .float .f64 ncn, .float .f64 ncn, .float .f64 nsn, .float .f64 sn, .float .f64 cn] 143)).alloc (.cells #[.float .f64 0, .float .f64 0, .float .f64 0, .float .f64 0, .float .f64 0, .float .f64 0, .float .f64 0, .float .f64 0] 143)).setRow (w3.heap.size + 1) #[.float .f64 sn, .float .f64 cn, .float .f64 cn, .float .f64 sn, .float .f64 nsn, .float .f64 ncn, .float .f64 ncn, .float .f64 nsn]) = wo at hr1 hr2 hgo ⊢
    clear c0 c1 k2 hb1 hb2 hb3
    go_quiet ((go_at_call 126; exact Calls.quiet_of_same ((plus126 _ _).mono fun _ _ h => ⟨h.1, h.2.symm⟩)))
    go_wp2
    go_ret2
    exact ⟨rfl, (hgo.drewN _).below⟩
  · have hpb : (((E % 2 : Nat) : Int) == 1) = false := by rw [beq_eq_false_iff_ne]; omega
    rw [if_neg hp] at g0
    clear hp
    go_enter Try.func106, Try.ntmps106
    go_wp2_with (first
      | (go_at_call 115; (with_reducible refine (HK.out _).mono ?_); rintro e w1 ⟨rfl, hb1⟩; obtain ⟨c0, c1⟩ := cells_two (blk_below hb1))
      | (go_at_call 124; (with_reducible refine (HSN.out _).mono ?_); rintro e w2 ⟨rfl, hb2⟩)
      | (go_at_call 125; (with_reducible refine (HCN.out _).mono ?_); rintro e w3 ⟨rfl, hb3⟩; have k2 := heap_at1 w3 (.cells #[.float .f64 cn, .float .f64 sn, .float .f64 nsn, .float .f64 ncn, .float .f64 ncn, .float .f64 nsn, .float .f64 sn, .float .f64 cn] 143) (.cells #[.float .f64 0, .float .f64 0, .float .f64 0, .float .f64 0, .float .f64 0, .float .f64 0, .float .f64 0, .float .f64 0] 143))
      | ((with_reducible apply wpList_store_new); (with_reducible rfl); (with_reducible rfl); rfl; rfl; kernel_rfl; rfl; kernel_rfl)
      | ((with_reducible apply wpList_store_blk); (with_reducible rfl); (with_reducible rfl); rfl; assumption; rfl; kernel_rfl; rfl; kernel_rfl))
    have hr1 := (cell_of_row (((w3.alloc (.cells #[.float .f64 cn, .float .f64 sn, .float .f64 nsn, .float .f64 ncn, .float .f64 ncn, .float .f64 nsn, .float .f64 sn, .float .f64 cn] 143)).alloc (.cells #[.float .f64 0, .float .f64 0, .float .f64 0, .float .f64 0, .float .f64 0, .float .f64 0, .float .f64 0, .float .f64 0] 143)).setRow (w3.heap.size + 1) #[.float .f64 sn, .float .f64 cn, .float .f64 cn, .float .f64 sn, .float .f64 nsn, .float .f64 ncn, .float .f64 ncn, .float .f64 nsn]) w3.heap.size E _ _ _ ((setRow_other _ _ _ _ (by omega)).trans (heap_past (heap_alloc_last _ _)))).trans hre
    have hr2 := (cell_of_row (((w3.alloc (.cells #[.float .f64 cn, .float .f64 sn, .float .f64 nsn, .float .f64 ncn, .float .f64 ncn, .float .f64 nsn, .float .f64 sn, .float .f64 cn] 143)).alloc (.cells #[.float .f64 0, .float .f64 0, .float .f64 0, .float .f64 0, .float .f64 0, .float .f64 0, .float .f64 0, .float .f64 0] 143)).setRow (w3.heap.size + 1) #[.float .f64 sn, .float .f64 cn, .float .f64 cn, .float .f64 sn, .float .f64 nsn, .float .f64 ncn, .float .f64 ncn, .float .f64 nsn]) (w3.heap.size + 1) E _ _ _ (setRow_heap _ _ _ _ _ _ k2)).trans him
    have hgo : Grew w.heap.size w (((w3.alloc (.cells #[.float .f64 cn, .float .f64 sn, .float .f64 nsn, .float .f64 ncn, .float .f64 ncn, .float .f64 nsn, .float .f64 sn, .float .f64 cn] 143)).alloc (.cells #[.float .f64 0, .float .f64 0, .float .f64 0, .float .f64 0, .float .f64 0, .float .f64 0, .float .f64 0, .float .f64 0] 143)).setRow (w3.heap.size + 1) #[.float .f64 sn, .float .f64 cn, .float .f64 cn, .float .f64 sn, .float .f64 nsn, .float .f64 ncn, .float .f64 ncn, .float .f64 nsn]) := by
      have hg0 := (((Grew.refl w).alloc (.cells #[.int .i64 x, .int .i64 q] 35)).step hb1)
      have hg3 := (hg0.step hb2).step hb3
      have hs3 := hg3.2
      exact ((hg3.alloc _).alloc _).setRow (by omega) _
    generalize (((w3.alloc (.cells #[.float .f64 cn, .float .f64 sn, .float .f64 nsn, .float .f64 ncn, .float .f64 ncn, .float .f64 nsn, .float .f64 sn, .float .f64 cn] 143)).alloc (.cells #[.float .f64 0, .float .f64 0, .float .f64 0, .float .f64 0, .float .f64 0, .float .f64 0, .float .f64 0, .float .f64 0] 143)).setRow (w3.heap.size + 1) #[.float .f64 sn, .float .f64 cn, .float .f64 cn, .float .f64 sn, .float .f64 nsn, .float .f64 ncn, .float .f64 ncn, .float .f64 nsn]) = wo at hr1 hr2 hgo ⊢
    clear c0 c1 k2 hb1 hb2 hb3
    go_quiet ((go_at_call 126; exact Calls.quiet_of_same ((plus126 _ _).mono fun _ _ h => ⟨h.1, h.2.symm⟩)))
    go_wp2
    go_ret2
    exact ⟨rfl, (hgo.drewN _).below⟩
end Go.Proofs.Ytklhdpkofpkmjaa
