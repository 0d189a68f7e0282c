/- Contracts of the reference's chapter 8 (turns): Add. -/
import Derived.Test.YtklhdpkofpkmjaaR8b
import Derived.BigQuiet
namespace Go.Proofs.Ytklhdpkofpkmjaa
open Go.RowKit
theorem q_add {f : FuncId} {args : Array Value} {w : World} {a n : Nat} {v : Value}
    (h : Calls Try.prog f args (w.drewN (a + n)) fun e w' => e = .returned v ∧ ∃ m, w' = (w.drewN (a + n)).drewN m) :
    Calls Try.prog f args (w.drewN (a + n)) fun e w'' => e = .returned v ∧ ∃ m, w'' = w.drewN (a + m) :=
  h.mono fun _ _ ⟨he, m, hm⟩ => ⟨he, n + m, by rw [hm, World.drewN_drewN, Nat.add_assoc]⟩
theorem q_same {f : FuncId} {args : Array Value} {w : World} {a n : Nat} {v : Value}
    (h : Calls Try.prog f args (w.drewN (a + n)) fun e w' => e = .returned v ∧ w' = w.drewN (a + n)) :
    Calls Try.prog f args (w.drewN (a + n)) fun e w'' => e = .returned v ∧ ∃ m, w'' = w.drewN (a + m) :=
  h.mono fun _ _ ⟨he, hm⟩ => ⟨he, n, hm⟩
theorem set_two {w : World} {g : Nat} {a b x y : Value} {T : TypeId} (h : w.heap[g]? = some (.cells #[a, b] T)) :
    ((w.setCell ⟨g, 0, none⟩ x).setCell ⟨g, 1, none⟩ y).drew.heap[g]? = some (.cells #[x, y] T) := by
  simp [World.setCell, World.drew, Array.getElem?_modify, h]
theorem add64_nil (w : World) :
    (callFunc 88 #[.int .u64 0, .int .u64 0, .int .u64 0]).run Try.prog w = .ok (.value (.tuple #[.int .u64 0, .int .u64 0])) w := by
  have := add64_small 0 0 (by omega) w
  exact this
set_option maxHeartbeats 1600000 in
set_option maxRecDepth 100000 in
theorem add8_low (x w1 y w2 : Nat) (w : World) (hx : x < w1) (hw1 : w1 ≤ 4294967296) (hc1 : Nat.gcd x w1 = 1) (hy : y < w2) (hw2 : w2 ≤ 4294967296) (hc2 : Nat.gcd y w2 = 1)
    (hW : (w1 / Nat.gcd w1 w2) * w2 ≤ 4294967296) (hW0 : 0 < (w1 / Nat.gcd w1 w2) * w2) (hs : x * (w2 / Nat.gcd w1 w2) + y * (w1 / Nat.gcd w1 w2) < 2 * ((w1 / Nat.gcd w1 w2) * w2)) :
    Calls Try.prog 117 #[.agg #[.int .i64 (x : Int), .int .i64 (w1 : Int)], .agg #[.int .i64 (y : Int), .int .i64 (w2 : Int)]] w fun e w' =>
      e = .returned (.tuple #[.agg (turnV ((x * (w2 / Nat.gcd w1 w2) + y * (w1 / Nat.gcd w1 w2)) % ((w1 / Nat.gcd w1 w2) * w2)) ((w1 / Nat.gcd w1 w2) * w2)), .int .i64 0]) ∧ Below w.heap.size w w' := by
  have HC1 := hide_ (fun wx => check8_ok x w1 wx hx hw1 hc1)
  have HC2 := hide_ (fun wx => check8_ok y w2 wx hy hw2 hc2)
  have HG := hide_ (fun wx => gcd8_ok w1 w2 wx (by omega) (by omega))
  have hgp : 0 < Nat.gcd w1 w2 := Nat.gcd_pos_of_pos_left _ (by omega)
  have hgl : Nat.gcd w1 w2 ≤ w1 := Nat.gcd_le_left _ (by omega)
  obtain ⟨g, hg⟩ : ∃ g, g = Nat.gcd w1 w2 := ⟨_, rfl⟩
  rw [← hg] at hW hW0 hs HG hgp hgl ⊢
  obtain ⟨v, hv⟩ : ∃ v, v = w2 / g := ⟨_, rfl⟩
  obtain ⟨u, hu⟩ : ∃ u, u = w1 / g := ⟨_, rfl⟩
  have hv2 : v ≤ w2 := by rw [hv]; exact Nat.div_le_self _ _
  have hu2 : u ≤ w1 := by rw [hu]; exact Nat.div_le_self _ _
  have d1 : (w2 : Int) / (g : Int) = (v : Int) := by rw [hv, Int.natCast_ediv]
  have d2 : (w1 : Int) / (g : Int) = (u : Int) := by rw [hu, Int.natCast_ediv]
  rw [← hv, ← hu] at hs ⊢
  rw [← hu] at hW hW0
  obtain ⟨W, hWd⟩ : ∃ W, W = u * w2 := ⟨_, rfl⟩
  obtain ⟨A, hA⟩ : ∃ A, A = x * v := ⟨_, rfl⟩
  obtain ⟨B, hB⟩ : ∃ B, B = y * u := ⟨_, rfl⟩
  have e1 : (u : Int) * (w2 : Int) = (W : Int) := by rw [hWd, Int.natCast_mul]
  rw [← hWd, ← hA, ← hB] at hs ⊢
  rw [← hWd] at hW hW0
  obtain ⟨r, hr⟩ : ∃ r, r = (A + B) % W := ⟨_, rfl⟩
  have hrW : r < W := by rw [hr]; exact Nat.mod_lt _ hW0
  have HM1 := hide_ (fun wx => Try.bits_Mul64 x v (by omega) (by omega) wx)
  have HM2 := hide_ (fun wx => Try.bits_Mul64 y u (by omega) (by omega) wx)
  rw [← hA, show A / 18446744073709551616 = 0 from Nat.div_eq_of_lt (by omega), show A % 18446744073709551616 = A from Nat.mod_eq_of_lt (by omega)] at HM1
  rw [← hB, show B / 18446744073709551616 = 0 from Nat.div_eq_of_lt (by omega), show B % 18446744073709551616 = B from Nat.mod_eq_of_lt (by omega)] at HM2
  have HD := hide_ (fun wx => div64_small (A + B) W wx (by omega) hW0 (by omega))
  have HL := hide_ (fun wx => gcd8_ok r W wx (by omega) (by omega))
  rw [← hr] at HD ⊢
  rw [turnV_div, Nat.gcd_comm W r]
  have hg2 : Nat.gcd r W ≤ W := Nat.gcd_le_right _ hW0
  have hg3 : 0 < Nat.gcd r W := Nat.gcd_pos_of_pos_right _ hW0
  generalize Nat.gcd r W = h at HL hg2 hg3 ⊢
  generalize (A + B) / W = c at HD
  have b1 := div_bd r h
  have b2 := div_bd W h
  clear hc1 hc2 hg hv hu hWd hA hB hr
  rw [Int.natCast_add] at HD
  rw [show ((0 : Nat) : Int) = 0 from rfl] at HM1 HM2
  have k1 : IntKind.u64.wrap (x : Int) = (x : Int) := IntWalk.u64_in _ (by omega)
  have k2 : IntKind.u64.wrap (w1 : Int) = (w1 : Int) := IntWalk.u64_in _ (by omega)
  have k3 : IntKind.u64.wrap (y : Int) = (y : Int) := IntWalk.u64_in _ (by omega)
  have k4 : IntKind.u64.wrap (w2 : Int) = (w2 : Int) := IntWalk.u64_in _ (by omega)
  have k5 : IntKind.u64.wrap (W : Int) = (W : Int) := IntWalk.u64_in _ (by omega)
  have k6 : IntKind.u64.wrap (u : Int) = (u : Int) := IntWalk.u64_in _ (by omega)
  have k7 : IntKind.u64.wrap (v : Int) = (v : Int) := IntWalk.u64_in _ (by omega)
  have t1 : (w1 : Int).tdiv (g : Int) = (u : Int) := by rw [Int.tdiv_eq_ediv_of_nonneg (by omega), d2]
  have t2 : (w2 : Int).tdiv (g : Int) = (v : Int) := by rw [Int.tdiv_eq_ediv_of_nonneg (by omega), d1]
  have hg0 : ((g : Int) == 0) = false := by rw [beq_eq_false_iff_ne]; omega
  have hW1 : ((W : Int) == 0) = false := by rw [beq_eq_false_iff_ne]; omega
  have hh0 : ((h : Int) == 0) = false := by rw [beq_eq_false_iff_ne]; omega
  have hg1 : (1 : Int) ≤ (g : Int) := by omega
  have hW2 : (1 : Int) ≤ (W : Int) := by omega
  have hh2 : (1 : Int) ≤ (h : Int) := by omega
  have tok1 : True := trivial
  go_enter Try.func117, Try.ntmps117
  go_wp2_with (first
    | (go_at_call 115; have _t := tok1; (with_reducible refine (HC1.out _).mono ?_); rintro e w3 ⟨rfl, hb3⟩; clear tok1; have T3 := (Three.new w (.int .i64 x) (.int .i64 w1) (.int .i64 y) (.int .i64 w2) (.int .i64 0) (.int .i64 0)).below hb3; have l3 := T3.lt; have m3 : w.heap.size < w3.heap.size := (by omega); have g3 := T3.g1)
    | (go_at_call 115; (with_reducible refine (HC2.out _).mono ?_); rintro e w4 ⟨rfl, hb4⟩; have T4 := T3.below hb4; have l4 := T4.lt; obtain ⟨a0, a1⟩ := cells_two T4.g0; obtain ⟨b0, b1⟩ := cells_two T4.g1)
    | (go_at_call 118; (with_reducible refine (HG.out _).mono ?_); rintro e w5 ⟨rfl, n5, rfl⟩)
    | ((with_reducible apply wpList_load_row (hu := Try.underlying35)); (with_reducible rfl); (with_reducible rfl); rfl; (first | assumption | exact heap_alloc_last _ _ | exact heap_past (by assumption)); rfl; kernel_rfl) | ((with_reducible apply wpList_store_blk); (with_reducible rfl); (with_reducible rfl); rfl; assumption; rfl; kernel_rfl; rfl; kernel_rfl))
  have T5 := T4.drewN n5
  go_quiet (fail)
  go_wp2
  go_quiet ((go_at_call 84; first | exact Calls.quiet_of_same (HM1.out _) | exact q_same (HM1.out _)))
  go_wp2
  go_quiet ((go_at_call 84; first | exact Calls.quiet_of_same (HM2.out _) | exact q_same (HM2.out _)))
  have hadd := fun wx => add64_small A B (by omega) wx
  have hnil := add64_nil
  have hh3 : (h : Int) ≤ 4294967296 := by omega
  have hW3 : (W : Int) ≤ 4294967296 := by omega
  have t3 : (r : Int).tdiv (h : Int) = (r : Int) / (h : Int) := Int.tdiv_eq_ediv_of_nonneg (by omega)
  have t4 : (W : Int).tdiv (h : Int) = (W : Int) / (h : Int) := Int.tdiv_eq_ediv_of_nonneg (by omega)
  have t5 : (0 : Int).tmod (W : Int) = 0 := Int.zero_tmod _
  have t6 : (0 : Int) % (W : Int) = 0 := Int.zero_emod _
  go_wp2_with (first
    | (go_at_call 114; (with_reducible refine (HD.out _).mono ?_); rintro e w6 ⟨rfl, n6, rfl⟩)
    | (go_at_call 118; (with_reducible refine (HL.out _).mono ?_); rintro e w7 ⟨rfl, n7, rfl⟩))
  have G4 : Grew w.heap.size w w4 := (((((Grew.refl w).alloc (.cells #[.int .i64 x, .int .i64 w1] 35)).alloc (.cells #[.int .i64 y, .int .i64 w2] 35)).alloc (.cells #[.int .i64 0, .int .i64 0] 35)).step hb3).step hb4
  have G5 := fun n => G4.drewN n
  have T6 := fun n => T4.drewN n
  generalize hwo : w4.drewN _ = wo
  have G7 : Grew w.heap.size w wo := hwo ▸ G5 _
  have T7 : Three w.heap.size (.int .i64 x) (.int .i64 w1) (.int .i64 y) (.int .i64 w2) (.int .i64 0) (.int .i64 0) wo := hwo ▸ T6 _
  clear hwo G4 G5 T6 T4 T5 T3 a0 a1 b0 b1 hadd hnil k1 k2 k3 k4 k5 k6 k7 t1 t2 t5 t6 hg0 hW1 hg1 d1 d2 e1 HM1 HM2 HD HL HG HC2 g3 m3 l3
  obtain ⟨c0, c1⟩ := cells_two T7.g2
  obtain ⟨f0, f1⟩ := free_two T7.g2
  have l7 := T7.lt
  have h5 : (r : Int) / (h : Int) ≤ 4294967296 := by omega
  have h6 : (W : Int) / (h : Int) ≤ 4294967296 := by omega
  have h7 := b1.1
  have h8 := b2.1
  clear t3 t4 hh0 b1 b2
  go_region
  go_wp2
  have g7 := T7.g2
  refine ret_ct rfl (w.heap.size + 2) 35 _ _ rfl (set_two g7) Try.underlying35 rfl (by kernel_rfl) rfl ⟨rfl, ?_⟩
  exact Grew.below (by repeat (first | exact Grew.refl _ | assumption | refine Grew.alloc ?_ _ | refine Grew.drewN ?_ _ | refine Grew.drew ?_ | refine Grew.setRow ?_ (by first | assumption | (simp; done) | (simp; omega) | omega) _ | refine Grew.setCell ?_ (by first | assumption | (simp; done) | (simp; omega) | omega) _ | refine Grew.step ?_ (by assumption)))
end Go.Proofs.Ytklhdpkofpkmjaa
