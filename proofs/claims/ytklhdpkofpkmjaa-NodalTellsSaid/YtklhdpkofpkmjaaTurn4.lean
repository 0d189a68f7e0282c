/- Contracts of package turn: Add (the sum of two turns). -/
import Derived.Test.YtklhdpkofpkmjaaTurn3
namespace Go.Proofs.Ytklhdpkofpkmjaa
open Go.RowKit
/-- Three blocks of two cells each, from block b on, as they were laid. -/
structure Three (b : Nat) (x1 x2 y1 y2 r1 r2 : Value) (w : World) : Prop where
  g0 : w.heap[b]? = some (.cells #[x1, x2] 35)
  g1 : w.heap[b + 1]? = some (.cells #[y1, y2] 35)
  g2 : w.heap[b + 2]? = some (.cells #[r1, r2] 35)
theorem Three.lt {b : Nat} {x1 x2 y1 y2 r1 r2 : Value} {w : World} (h : Three b x1 x2 y1 y2 r1 r2 w) : b + 2 < w.heap.size := by
  rcases Nat.lt_or_ge (b + 2) w.heap.size with hlt | hge
  · exact hlt
  · have := h.g2
    rw [Array.getElem?_eq_none hge] at this
    cases this
theorem Three.below {b : Nat} {x1 x2 y1 y2 r1 r2 : Value} {w w' : World} (h : Three b x1 x2 y1 y2 r1 r2 w) (hb : Below w.heap.size w w') : Three b x1 x2 y1 y2 r1 r2 w' := by
  have hl := h.lt
  exact ⟨(hb.block _ (by omega)).trans h.g0, (hb.block _ (by omega)).trans h.g1, (hb.block _ (by omega)).trans h.g2⟩
theorem Three.drewN {b : Nat} {x1 x2 y1 y2 r1 r2 : Value} {w : World} (h : Three b x1 x2 y1 y2 r1 r2 w) (n : Nat) : Three b x1 x2 y1 y2 r1 r2 (w.drewN n) := ⟨h.g0, h.g1, h.g2⟩
theorem Three.new (w : World) (x1 x2 y1 y2 r1 r2 : Value) : Three w.heap.size x1 x2 y1 y2 r1 r2 (((w.alloc (.cells #[x1, x2] 35)).alloc (.cells #[y1, y2] 35)).alloc (.cells #[r1, r2] 35)) := by
  have e1 : (w.alloc (.cells #[x1, x2] 35)).heap.size = w.heap.size + 1 := by simp
  have e2 : ((w.alloc (.cells #[x1, x2] 35)).alloc (.cells #[y1, y2] 35)).heap.size = w.heap.size + 2 := by simp
  refine ⟨?_, ?_, ?_⟩
  · rw [Below.heap_alloc _ _ _ (by omega), Below.heap_alloc _ _ _ (by omega)]
    exact heap_alloc_last _ _
  · rw [Below.heap_alloc _ _ _ (by omega), ← e1]
    exact heap_alloc_last _ _
  · rw [← e2]
    exact heap_alloc_last _ _
theorem index107 (x1 x2 y1 y2 : Int) (w : World) : (Instr.index 107 (.agg #[.int .i64 x1, .int .i64 x2, .int .i64 y1, .int .i64 y2]) (.int .i64 0)).run Try.prog w = .ok (.agg #[.int .i64 x1, .int .i64 x2]) w ∧
    (Instr.index 107 (.agg #[.int .i64 x1, .int .i64 x2, .int .i64 y1, .int .i64 y2]) (.int .i64 1)).run Try.prog w = .ok (.agg #[.int .i64 y1, .int .i64 y2]) w := ⟨by kernel_rfl, by kernel_rfl⟩
theorem add64_small (x y : Nat) (h : x + y < 18446744073709551616) (w : World) :
    (callFunc 88 #[.int .u64 (x : Int), .int .u64 (y : Int), .int .u64 0]).run Try.prog w = .ok (.value (.tuple #[.int .u64 ((x : Int) + (y : Int)), .int .u64 0])) w := by
  rw [run_callFunc_extern Try.func88 (by kernel_rfl) (by kernel_rfl) (by kernel_rfl) (e := add64Entry) (by kernel_rfl), run_add64 x y 0 (by omega) (by omega) (by omega) (by omega)]
  rw [show ((x : Int) + (y : Int) + 0) % 18446744073709551616 = (x : Int) + (y : Int) by omega, show ((x : Int) + (y : Int) + 0) / 18446744073709551616 = 0 by omega]
  rfl
set_option maxHeartbeats 1600000 in
set_option maxRecDepth 100000 in
theorem add_low (x w1 y w2 : Nat) (w : World) (hx : x < w1) (hw1 : w1 ≤ 4294967296) (hc1 : Nat.gcd w1 x = 1) (hy : y < w2) (hw2 : w2 ≤ 4294967296) (hc2 : Nat.gcd w2 y = 1)
    (hW : w1 * (w2 / Nat.gcd w1 w2) ≤ 4294967296) (hs : x * (w2 / Nat.gcd w1 w2) + y * (w1 / Nat.gcd w1 w2) < 2 * (w1 * (w2 / Nat.gcd w1 w2))) :
    Calls Try.prog 31 #[.agg #[.int .i64 (x : Int), .int .i64 (w1 : Int)], .agg #[.int .i64 (y : Int), .int .i64 (w2 : Int)]] w fun e w' =>
      e = .returned (.tuple #[.agg (turnV ((x * (w2 / Nat.gcd w1 w2) + y * (w1 / Nat.gcd w1 w2)) % (w1 * (w2 / Nat.gcd w1 w2))) (w1 * (w2 / Nat.gcd w1 w2))), .int .i64 0]) ∧ Below w.heap.size w w' := by
  have HC1 := hide_ (fun wx => tcheck_ok x w1 wx hx hw1 hc1)
  have HC2 := hide_ (fun wx => tcheck_ok y w2 wx hy hw2 hc2)
  have HG := hide_ (fun wx => common_ok w1 w2 wx (by omega) (by omega))
  have hgp : 0 < Nat.gcd w1 w2 := Nat.gcd_pos_of_pos_left _ (by omega)
  obtain ⟨g, hg⟩ : ∃ g, g = Nat.gcd w1 w2 := ⟨_, rfl⟩
  rw [← hg] at hW hs HG hgp ⊢
  obtain ⟨v, hv⟩ : ∃ v, v = w2 / g := ⟨_, rfl⟩
  obtain ⟨u, hu⟩ : ∃ u, u = w1 / g := ⟨_, rfl⟩
  have hv2 : v ≤ w2 := by rw [hv]; exact Nat.div_le_self _ _
  have hu2 : u ≤ w1 := by rw [hu]; exact Nat.div_le_self _ _
  have d1 : (w2 : Int) / (g : Int) = (v : Int) := by rw [hv, Int.natCast_ediv]
  have d2 : (w1 : Int) / (g : Int) = (u : Int) := by rw [hu, Int.natCast_ediv]
  rw [← hv, ← hu] at hs ⊢
  rw [← hv] at hW
  obtain ⟨W, hWd⟩ : ∃ W, W = w1 * v := ⟨_, rfl⟩
  obtain ⟨A, hA⟩ : ∃ A, A = x * v := ⟨_, rfl⟩
  obtain ⟨B, hB⟩ : ∃ B, B = y * u := ⟨_, rfl⟩
  have e1 : (w1 : Int) * (v : Int) = (W : Int) := by rw [hWd, Int.natCast_mul]
  have e2 : (x : Int) * (v : Int) = (A : Int) := by rw [hA, Int.natCast_mul]
  have e3 : (y : Int) * (u : Int) = (B : Int) := by rw [hB, Int.natCast_mul]
  rw [← hWd, ← hA, ← hB] at hs ⊢
  rw [← hWd] at hW
  have hWp : 0 < W := by
    rcases Nat.eq_zero_or_pos W with h | h
    · omega
    · exact h
  obtain ⟨r, hr⟩ : ∃ r, r = (A + B) % W := ⟨_, rfl⟩
  have hrW : r < W := by rw [hr]; exact Nat.mod_lt _ hWp
  rw [← hr]
  have Hr := hide_ hr
  have HL := hide_ (fun wx => lowest_ok r W wx hrW (by omega) (Nat.le_trans (Nat.div_le_self _ _) hW))
  clear hc1 hc2 hg hv hu hWd hA hB hr
  have E1 := hide_ e1
  have E2 := hide_ e2
  have E3 := hide_ e3
  have D1 := hide_ d1
  have D2 := hide_ d2
  clear e1 e2 e3 d1 d2
  have hi := fun wx => (index107 x w1 y w2 wx).1
  have hj := fun wx => (index107 x w1 y w2 wx).2
  go_enter Try.func31, Try.ntmps31
  go_wp2
  go_loopw [17, 8] (fun i _ wr => ∃ k : Nat, k ≤ 2 ∧ i = .int .i64 k ∧ Three w.heap.size (.int .i64 x) (.int .i64 w1) (.int .i64 y) (.int .i64 w2) (.int .i64 0) (.int .i64 0) wr ∧ Grew w.heap.size w wr) (fun i _ _ => 2 - (intOf i).toNat)
  case atStart => exact ⟨0, by omega, rfl, Three.new _ _ _ _ _ _ _, (((Grew.refl w).alloc _).alloc _).alloc _⟩
  case round =>
    obtain ⟨k, hk, rfl, ht, hgr⟩ := hrel
    rcases (show k = 0 ∨ k = 1 ∨ k = 2 by omega) with rfl | rfl | rfl
    · clear HC2 HG hj
      go_wp2_with (go_at_call 33; (with_reducible refine (HC1.out _).mono ?_); rintro e w3 ⟨rfl, hb3⟩)
      go_roundw
      case rel => exact ⟨1, by omega, rfl, (ht.below ((Below.refl _ _).alloc (Nat.le_refl _) _)).below hb3, (hgr.alloc _).step hb3⟩
      case measure => simp [intOf]
    · clear HC1 HG hi
      go_wp2_with (go_at_call 33; (with_reducible refine (HC2.out _).mono ?_); rintro e w3 ⟨rfl, hb3⟩)
      go_roundw
      case rel => exact ⟨2, by omega, rfl, (ht.below ((Below.refl _ _).alloc (Nat.le_refl _) _)).below hb3, (hgr.alloc _).step hb3⟩
      case measure => simp [intOf]
    · clear HC1 HC2 hi hj
      obtain ⟨a0, a1⟩ := cells_two ht.g0
      obtain ⟨b0, b1⟩ := cells_two ht.g1
      have hlt := ht.lt
      have e1 := E1.out
      have e2 := E2.out
      have e3 := E3.out
      have d1 := D1.out
      have d2 := D2.out
      have k1 : IntKind.u64.wrap (u : Int) = (u : Int) := IntWalk.u64_in _ (by omega)
      have k2 : IntKind.u64.wrap (x : Int) = (x : Int) := IntWalk.u64_in _ (by omega)
      have k3 : IntKind.u64.wrap (y : Int) = (y : Int) := IntWalk.u64_in _ (by omega)
      have k4 : IntKind.i64.wrap (u : Int) = (u : Int) := IntWalk.i64_in _ (by omega)
      have k5 : IntKind.u64.wrap (A : Int) = (A : Int) := IntWalk.u64_in _ (by omega)
      have k6 : IntKind.u64.wrap (B : Int) = (B : Int) := IntWalk.u64_in _ (by omega)
      have hg0 : ((g : Int) == 0) = false := by rw [beq_eq_false_iff_ne]; omega
      have hg1 : (1 : Int) ≤ (g : Int) := by omega
      have t1 : (w1 : Int).tdiv (g : Int) = (w1 : Int) / (g : Int) := Int.tdiv_eq_ediv_of_nonneg (by omega)
      go_wp2_with (go_at_call 87; (with_reducible refine (HG.out _).mono ?_); rintro e w3 ⟨rfl, n3, rfl⟩)
      have hadd := fun wx => add64_small A B (by omega) wx
      go_region
      have T3 := hide_ (ht.drewN (n3 + 1))
      have hgr3 := hgr.drewN (n3 + 1)
      clear ht hgr hadd e1 e2 e3 d1 d2 t1 k1 k2 k3 k4 k5 k6
      by_cases hlW : A + B < W
      · have er : (A : Int) + (B : Int) = (r : Int) := by rw [Hr.out, Nat.mod_eq_of_lt hlW, Int.natCast_add]
        go_wp2_with (first | (go_at_call 85; (with_reducible refine (HL.out _).mono ?_); rintro e w5 ⟨rfl, hb5⟩; have hg5 := (T3.out.below hb5).g2) | ((with_reducible apply wpList_store_blk); (with_reducible rfl); (with_reducible rfl); rfl; assumption; rfl; kernel_rfl; rfl; kernel_rfl))
        refine ret_ct rfl _ 35 _ _ rfl (setRow_heap _ _ _ _ _ _ hg5) Try.underlying35 rfl (by kernel_rfl) rfl ⟨?_, ?_⟩
        · simp [turnV]
        · exact Grew.below (by repeat (first | exact Grew.refl _ | assumption | refine Grew.alloc ?_ _ | refine Grew.drewN ?_ _ | refine Grew.drew ?_ | refine Grew.setRow ?_ (by first | assumption | (simp; done) | (simp; omega) | omega) _ | refine Grew.setCell ?_ (by first | assumption | (simp; done) | (simp; omega) | omega) _ | refine Grew.step ?_ (by assumption)))
      · obtain ⟨hr, er⟩ : r + W = A + B ∧ (A : Int) + (B : Int) - (W : Int) = (r : Int) := by
          have h1 := Nat.mod_eq_sub_mod (show A + B ≥ W by omega)
          rw [Nat.mod_eq_of_lt (show A + B - W < W by omega), ← Hr.out] at h1
          omega
        have hge : (W : Int) ≤ (A : Int) + (B : Int) := by omega
        go_wp2_with (first | (go_at_call 85; (with_reducible refine (HL.out _).mono ?_); rintro e w5 ⟨rfl, hb5⟩; have hg5 := (T3.out.below hb5).g2) | ((with_reducible apply wpList_store_blk); (with_reducible rfl); (with_reducible rfl); rfl; assumption; rfl; kernel_rfl; rfl; kernel_rfl))
        refine ret_ct rfl _ 35 _ _ rfl (setRow_heap _ _ _ _ _ _ hg5) Try.underlying35 rfl (by kernel_rfl) rfl ⟨?_, ?_⟩
        · simp [turnV]
        · exact Grew.below (by repeat (first | exact Grew.refl _ | assumption | refine Grew.alloc ?_ _ | refine Grew.drewN ?_ _ | refine Grew.drew ?_ | refine Grew.setRow ?_ (by first | assumption | (simp; done) | (simp; omega) | omega) _ | refine Grew.setCell ?_ (by first | assumption | (simp; done) | (simp; omega) | omega) _ | refine Grew.step ?_ (by assumption)))
end Go.Proofs.Ytklhdpkofpkmjaa
