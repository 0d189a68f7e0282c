/- The contract of turn.Root: a turn's number. -/
import Derived.Test.YtklhdpkofpkmjaaRo
namespace Go.Proofs.Ytklhdpkofpkmjaa
open Go.RowKit Ieee
set_option linter.unusedVariables false
set_option maxRecDepth 100000
theorem frombits (w : World) : (callFunc 119 #[.int .u64 4605249457297304856]).run Try.prog w = .ok (.value (.float .f64 PI4)) w := by
  kernel_rfl
theorem placed_ok (e s c : Nat) (he : e < 8) (w : World) : Calls Try.prog 123 #[.int .i64 (e : Int), .float .f64 s, .float .f64 c] w fun r w' => r = .returned (.complex .f64 (plusB (reB e s c)) (plusB (imB e s c))) ∧ w = w' := by
  have hs := run_negF s
  have hc := run_negF c
  rcases (show e = 0 ∨ e = 1 ∨ e = 2 ∨ e = 3 ∨ e = 4 ∨ e = 5 ∨ e = 6 ∨ e = 7 by omega) with rfl | rfl | rfl | rfl | rfl | rfl | rfl | rfl
  all_goals
    simp only [reB, imB]
    go_enter Try.func123, Try.ntmps123
    go_wp2_with (go_at_call 132; (with_reducible refine (plus132 _ _).mono ?_); rintro e w' ⟨rfl, rfl⟩)
    go_ret
    exact ⟨rfl, rfl⟩
theorem row_cells {w : World} {g : Nat} {cs : Array Value} {T : TypeId} (h : w.heap[g]? = some (.cells cs T)) (C : Nat → Nat) (n : Nat) (hC : ∀ j, j < n → cs[j]? = some (.float .f64 (C j))) :
    ∀ j, j < n → w.cell? ⟨g, j, none⟩ = some (.float .f64 (C j)) := fun j hj => by rw [cell_of_row _ _ _ _ _ _ h]; exact hC j hj
def SINR : Array Value := #[.float .f64 14011551075333570560, .float .f64 4753323511810883584, .float .f64 13943998388916715520, .float .f64 4689977843394805760, .float .f64 13885635590159859712, .float .f64 4638144666238189568, .float .f64 13841813454723219456]
def COSR : Array Value := #[.float .f64 4806193436988276736, .float .f64 13993893759104843776, .float .f64 4736815922046566400, .float .f64 13928419236864065536, .float .f64 4675774352187195392, .float .f64 13872916439649746944, .float .f64 4627448617123184640, .float .f64 13835058055282163712]
def Z7 : Array Value := #[.float .f64 0, .float .f64 0, .float .f64 0, .float .f64 0, .float .f64 0, .float .f64 0, .float .f64 0]
def Z8 : Array Value := #[.float .f64 0, .float .f64 0, .float .f64 0, .float .f64 0, .float .f64 0, .float .f64 0, .float .f64 0, .float .f64 0]
theorem sinR_at (j : Nat) (hj : j < 7) : SINR[j]? = some (.float .f64 (sinC j)) := by
  rcases (show j = 0 ∨ j = 1 ∨ j = 2 ∨ j = 3 ∨ j = 4 ∨ j = 5 ∨ j = 6 by omega) with rfl | rfl | rfl | rfl | rfl | rfl | rfl <;> rfl
theorem cosR_at (j : Nat) (hj : j < 8) : COSR[j]? = some (.float .f64 (cosC j)) := by
  rcases (show j = 0 ∨ j = 1 ∨ j = 2 ∨ j = 3 ∨ j = 4 ∨ j = 5 ∨ j = 6 ∨ j = 7 by omega) with rfl | rfl | rfl | rfl | rfl | rfl | rfl | rfl <;> rfl
theorem two_rows (w : World) (a b c d : Array Value) (S T : TypeId) :
    ((w.alloc (.cells a S)).alloc (.cells b T)).heap[w.heap.size]? = some (.cells a S) ∧
    (((w.alloc (.cells a S)).alloc (.cells b T)).setRow w.heap.size c).heap[w.heap.size + 1]? = some (.cells b T) ∧
    ((((w.alloc (.cells a S)).alloc (.cells b T)).setRow w.heap.size c).setRow (w.heap.size + 1) d).heap[w.heap.size]? = some (.cells c S) ∧
    ((((w.alloc (.cells a S)).alloc (.cells b T)).setRow w.heap.size c).setRow (w.heap.size + 1) d).heap[w.heap.size + 1]? = some (.cells d T) := by
  have h1 : ((w.alloc (.cells a S)).alloc (.cells b T)).heap[w.heap.size]? = some (.cells a S) := heap_past (heap_alloc_last _ _)
  have h2 : ((w.alloc (.cells a S)).alloc (.cells b T)).heap[w.heap.size + 1]? = some (.cells b T) := by
    rw [show w.heap.size + 1 = (w.alloc (.cells a S)).heap.size by simp]
    exact heap_alloc_last _ _
  have h3 := (setRow_other ((w.alloc (.cells a S)).alloc (.cells b T)) w.heap.size (w.heap.size + 1) c (by omega)).trans h2
  exact ⟨h1, h3, (setRow_other _ _ _ d (by omega)).trans (setRow_heap _ _ _ c _ _ h1), setRow_heap _ _ _ d _ _ h3⟩
set_option maxHeartbeats 1600000 in
theorem root_ok (x q : Nat) (w : World) (hx : x < q) (hq : q ≤ 4294967296) (hc : Nat.gcd q x = 1) :
    Calls Try.prog 105 #[.agg #[.int .i64 (x : Int), .int .i64 (q : Int)]] w fun e w' => e = .returned (.tuple #[.complex .f64 (rootRe x q) (rootIm x q), .int .i64 0]) ∧ Below w.heap.size w w' := by
  have HK := hide_ (fun wx => tcheck_ok x q wx hx hq hc)
  have hyo := rootY_yok x q (by omega) hq
  obtain ⟨rf, rfp⟩ := rootF_ok _ _ (rootA_le x q (by omega)) (by omega) hq
  have ry := rootY_ok rfp
  have hE8 : 8 * x / q < 8 := Nat.div_lt_of_lt_mul (by omega)
  unfold rootRe rootIm
  have hA : ((rootA x q : Nat) : Int) = if 8 * x / q % 2 = 1 then (q : Int) - ((8 * x % q : Nat) : Int) else ((8 * x % q : Nat) : Int) := by
    have := Nat.mod_lt (8 * x) (show 0 < q by omega)
    unfold rootA
    split <;> omega
  have hM : 8 * x % q < q := Nat.mod_lt _ (by omega)
  have hdv : (8 * (x : Int)).tdiv (q : Int) = ((8 * x / q : Nat) : Int) := by
    rw [Int.tdiv_eq_ediv_of_nonneg (by omega)]; rfl
  have hmd : (8 * (x : Int)).tmod (q : Int) = ((8 * x % q : Nat) : Int) := by
    rw [Int.tmod_eq_emod_of_nonneg (by omega)]; rfl
  rw [hA] at rf
  generalize hrF : rootF (rootA x q) q = F at *
  have hrY : rootY (rootA x q) q = fm F PI4 := by unfold rootY; rw [hrF]
  rw [hrY] at hyo ⊢
  clear hrF hrY hA rfp
  generalize fm F PI4 = y at *
  have ry1 := ry.1
  clear ry
  generalize 8 * x / q = E at *
  generalize 8 * x % q = M at *
  obtain ⟨h1, hS, hC, h2, h3, h4, h5, h6, _, _⟩ := hyo
  generalize sinB y = sn at *
  generalize cosB y = cn at *
  generalize fm y y = Q at *
  have HS := hide_ (fun g wx hc => series_sin g Q wx hc hS)
  have HC := hide_ (fun g wx hc => series_cos g Q wx hc hC)
  clear hS hC
  generalize hat sinO Q 6 = S6 at *
  generalize hat cosO Q 7 = C7 at *
  have g0 := fun wx => run_float_arith (P := Try.prog) wx .quo 46 .f64 _ _ _ rf
  have g1 := fun wx => run_float_arith (P := Try.prog) wx .mul 46 .f64 _ _ _ ry1
  have g2 := fun wx => run_float_arith (P := Try.prog) wx .mul 46 .f64 _ _ _ h1
  have g3 := fun wx => run_float_arith (P := Try.prog) wx .mul 46 .f64 _ _ _ h2
  have g4 := fun wx => run_float_arith (P := Try.prog) wx .mul 46 .f64 _ _ _ h3
  have g5 := fun wx => run_float_arith (P := Try.prog) wx .add 46 .f64 _ _ _ h4
  have g6 := fun wx => run_float_arith (P := Try.prog) wx .mul 46 .f64 _ _ _ h5
  have g7 := fun wx => run_float_arith (P := Try.prog) wx .add 46 .f64 _ _ _ h6
  have HP := hide_ (fun wx => placed_ok E sn cn hE8 wx)
  generalize plusB (reB E sn cn) = RE at *
  generalize plusB (imB E sn cn) = IM at *
  generalize fm (fm y Q) S6 = yqs at *
  generalize fm y Q = yq at *
  generalize fm Q C7 = qc at *
  clear rf ry1 h1 h2 h3 h4 h5 h6
  have hfb := frombits
  have hq0 : ((q : Int) == 0) = false := by rw [beq_eq_false_iff_ne]; omega
  have he2 : (E : Int).tmod 2 = ((E % 2 : Nat) : Int) := by rw [Int.tmod_eq_emod_of_nonneg (by omega)]; rfl
  unfold ONE at g7
  unfold PI4 at hfb g1
  by_cases hp : E % 2 = 1
  · have hpb : (((E % 2 : Nat) : Int) == 1) = true := by rw [beq_iff_eq]; omega
    rw [if_pos hp] at g0
    clear hp
    go_enter Try.func105, Try.ntmps105
    go_wp2_with (go_at_call 33; (with_reducible refine (HK.out _).mono ?_); rintro e w1 ⟨rfl, hb1⟩; obtain ⟨c0, c1⟩ := cells_two (blk_below hb1))
    go_quiet (fail)
    go_wp2_with (first
      | (go_at_call 120; (with_reducible refine (table120 _).mono ?_); rintro e w2 ⟨rfl, hb2⟩)
      | (go_at_call 121; (with_reducible refine (table121 _).mono ?_); rintro e w3 ⟨rfl, hb3⟩; obtain ⟨k1, k2, k3, k4⟩ := two_rows w3 Z7 Z8 SINR COSR 141 143; have HS1 := hide_ (HS.out _ _ (row_cells k3 sinC 7 sinR_at)); have HC1 := hide_ (HC.out _ _ (row_cells k4 cosC 8 cosR_at)); unfold SINR COSR Z7 Z8 at HS1 HC1)
      | (go_at_call 122; (with_reducible refine HS1.out.mono ?_); rintro e w4 ⟨rfl, rfl⟩)
      | (go_at_call 122; (with_reducible refine HC1.out.mono ?_); rintro e w5 ⟨rfl, rfl⟩)
      | (go_at_call 123; (with_reducible refine (HP.out _).mono ?_); rintro e w6 ⟨rfl, rfl⟩)
      | ((with_reducible apply wpList_store_blk); (with_reducible rfl); (with_reducible rfl); rfl; assumption; rfl; kernel_rfl; rfl; kernel_rfl))
    go_ret2
    refine ⟨rfl, ?_⟩
    have hg3 := ((((Grew.refl w).alloc (.cells #[.int .i64 x, .int .i64 q] 35)).step hb1).drewN nq).step hb2
    have hg3 := hg3.step hb3
    have hs3 := hg3.2
    exact Grew.below (by repeat (first | exact Grew.refl _ | assumption | refine Grew.alloc ?_ _ | refine Grew.drewN ?_ _ | refine Grew.drew ?_ | refine Grew.setRow ?_ (by first | assumption | (simp; done) | (simp; omega) | omega) _ | refine Grew.setCell ?_ (by first | assumption | (simp; done) | (simp; omega) | omega) _ | refine Grew.step ?_ (by assumption)))
  · have hpb : (((E % 2 : Nat) : Int) == 1) = false := by rw [beq_eq_false_iff_ne]; omega
    rw [if_neg hp] at g0
    clear hp
    go_enter Try.func105, Try.ntmps105
    go_wp2_with (go_at_call 33; (with_reducible refine (HK.out _).mono ?_); rintro e w1 ⟨rfl, hb1⟩; obtain ⟨c0, c1⟩ := cells_two (blk_below hb1))
    go_quiet (fail)
    go_wp2_with (first
      | (go_at_call 120; (with_reducible refine (table120 _).mono ?_); rintro e w2 ⟨rfl, hb2⟩)
      | (go_at_call 121; (with_reducible refine (table121 _).mono ?_); rintro e w3 ⟨rfl, hb3⟩; obtain ⟨k1, k2, k3, k4⟩ := two_rows w3 Z7 Z8 SINR COSR 141 143; have HS1 := hide_ (HS.out _ _ (row_cells k3 sinC 7 sinR_at)); have HC1 := hide_ (HC.out _ _ (row_cells k4 cosC 8 cosR_at)); unfold SINR COSR Z7 Z8 at HS1 HC1)
      | (go_at_call 122; (with_reducible refine HS1.out.mono ?_); rintro e w4 ⟨rfl, rfl⟩)
      | (go_at_call 122; (with_reducible refine HC1.out.mono ?_); rintro e w5 ⟨rfl, rfl⟩)
      | (go_at_call 123; (with_reducible refine (HP.out _).mono ?_); rintro e w6 ⟨rfl, rfl⟩)
      | ((with_reducible apply wpList_store_blk); (with_reducible rfl); (with_reducible rfl); rfl; assumption; rfl; kernel_rfl; rfl; kernel_rfl))
    go_ret2
    refine ⟨rfl, ?_⟩
    have hg3 := ((((Grew.refl w).alloc (.cells #[.int .i64 x, .int .i64 q] 35)).step hb1).drewN nq).step hb2
    have hg3 := hg3.step hb3
    have hs3 := hg3.2
    exact Grew.below (by repeat (first | exact Grew.refl _ | assumption | refine Grew.alloc ?_ _ | refine Grew.drewN ?_ _ | refine Grew.drew ?_ | refine Grew.setRow ?_ (by first | assumption | (simp; done) | (simp; omega) | omega) _ | refine Grew.setCell ?_ (by first | assumption | (simp; done) | (simp; omega) | omega) _ | refine Grew.step ?_ (by assumption)))
end Go.Proofs.Ytklhdpkofpkmjaa
