/- Contracts of package turn: Times (a multiple of a turn), by the library's Mul64 and Rem64 where the product has no high word. -/
import Derived.Test.YtklhdpkofpkmjaaTurn2
import Derived.Test.YtklhdpkofpkmjaaShelf
import Derived.Deep.RegionHeld3
namespace Go.Proofs.Ytklhdpkofpkmjaa
open Go.RowKit
theorem div64_small (l y : Nat) (w : World) (hl : l < 18446744073709551616) (hy : 0 < y) (hy2 : y < 18446744073709551616) :
    Calls Try.prog 114 #[.int .u64 0, .int .u64 (l : Int), .int .u64 (y : Int)] w fun e w' => e = .returned (.tuple #[.int .u64 ((l / y : Nat) : Int), .int .u64 ((l % y : Nat) : Int)]) ∧ ∃ n, w' = w.drewN n := by
  have hb : ((y : Int) == 0) = false := by rw [beq_eq_false_iff_ne]; omega
  have hy1 : 1 ≤ y := hy
  have d1 := div_bd l y
  go_enter Try.func114, Try.ntmps114
  go_wp2
  go_quiet (fail)
  go_wp2
  go_ret2
  exact ⟨by rw [Int.natCast_ediv, Int.natCast_emod]; rfl, _, rfl⟩
theorem rem64_small (l y : Nat) (w : World) (hl : l < 18446744073709551616) (hy : 0 < y) (hy2 : y < 18446744073709551616) :
    Calls Try.prog 86 #[.int .u64 0, .int .u64 (l : Int), .int .u64 (y : Int)] w fun e w' => e = .returned (.int .u64 ((l % y : Nat) : Int)) ∧ ∃ n, w' = w.drewN n := by
  have hy1 : 1 ≤ y := hy
  have HD := hide_ (fun wx => div64_small l y wx hl hy hy2)
  go_enter Try.func86, Try.ntmps86
  go_wp2_with (go_at_call 114; refine (HD.out _).mono ?_; rintro e w1 ⟨rfl, n1, rfl⟩)
  go_ret
  exact ⟨rfl, _, rfl⟩
theorem blk_two {w0 w1 : World} {o1 o2 : Obj} (hb : Below ((w0.alloc o1).alloc o2).heap.size ((w0.alloc o1).alloc o2) w1) : w1.heap[w0.heap.size]? = some o1 ∧ w1.heap[w0.heap.size + 1]? = some o2 ∧ w0.heap.size + 1 < w1.heap.size := by
  have h := hb.size
  have e : (w0.alloc o1).heap.size = w0.heap.size + 1 := by simp
  have e2 : ((w0.alloc o1).alloc o2).heap.size = w0.heap.size + 2 := by simp
  refine ⟨?_, ?_, by omega⟩
  · rw [hb.block _ (by omega), Below.heap_alloc _ _ _ (by omega)]
    exact heap_alloc_last w0 o1
  · rw [hb.block _ (by omega), ← e]
    exact heap_alloc_last _ o2
theorem free_two {w : World} {g : Nat} {a b : Value} {T : TypeId} (h : w.heap[g]? = some (.cells #[a, b] T)) : w.frozen? ⟨g, 0, none⟩ = false ∧ w.frozen? ⟨g, 1, none⟩ = false := by
  simp [World.frozen?, h]
theorem cells_two {w : World} {g : Nat} {a b : Value} {T : TypeId} (h : w.heap[g]? = some (.cells #[a, b] T)) : w.cell? ⟨g, 0, none⟩ = some a ∧ w.cell? ⟨g, 1, none⟩ = some b :=
  ⟨by rw [cell_of_row _ _ _ _ _ _ h]; rfl, by rw [cell_of_row _ _ _ _ _ _ h]; rfl⟩
set_option maxRecDepth 100000 in
theorem times_low (x q : Nat) (n : Int) (w : World) (hx : x < q) (hq : q ≤ 4294967296) (hc : Nat.gcd q x = 1) (hn : -2147483648 ≤ n) (hn2 : n ≤ 2147483647) :
    Calls Try.prog 30 #[.agg #[.int .i64 (x : Int), .int .i64 (q : Int)], .int .i32 n] w fun e w' => e = .returned (.tuple #[.agg (turnV ((x * (n % (q : Int)).toNat) % q) q), .int .i64 0]) ∧ Below w.heap.size w w' := by
  have HC := hide_ (fun wx => tcheck_ok x q wx hx hq hc)
  clear hc
  have h1 : -(q : Int) < n.tmod q := by have := Int.lt_tmod_of_pos n (show (0 : Int) < q by omega); omega
  have h2 : n.tmod q < q := Int.tmod_lt_of_pos n (by omega)
  obtain ⟨k, hk⟩ : ∃ k : Nat, (k : Int) = n % (q : Int) := ⟨(n % (q : Int)).toNat, Int.toNat_of_nonneg (Int.emod_nonneg _ (by omega))⟩
  have hkq : k < q := by have := Int.emod_lt_of_pos n (show (0 : Int) < q by omega); omega
  have e0 := tmod_emod n q (by omega)
  have e1 : (n.tmod q + (q : Int)).tmod q = (k : Int) := by rw [Int.tmod_eq_emod_of_nonneg (by omega), e0, hk]
  have e2 : IntKind.i64.wrap (n.tmod q + (q : Int)) = n.tmod q + (q : Int) := IntWalk.i64_in _ (by omega)
  have e3 : IntKind.i64.wrap (n.tmod q) = n.tmod q := IntWalk.i64_in _ (by omega)
  have hkt : (n % (q : Int)).toNat = k := by omega
  rw [hkt]
  have hmul : x * k < 18446744073709551616 := Nat.lt_of_le_of_lt (Nat.mul_le_mul (show x ≤ 4294967295 by omega) (show k ≤ 4294967295 by omega)) (by omega)
  have HM := hide_ (fun wx => Try.bits_Mul64 x k (by omega) (by omega) wx)
  have m1 : x * k / 18446744073709551616 = 0 := Nat.div_eq_of_lt hmul
  have m2 : x * k % 18446744073709551616 = x * k := Nat.mod_eq_of_lt hmul
  rw [m1, m2] at HM
  obtain ⟨r, hr⟩ : ∃ r, r = x * k % q := ⟨_, rfl⟩
  have hrq : r < q := by rw [hr]; exact Nat.mod_lt _ (by omega)
  rw [← hr]
  have HR : Hid (∀ wx, Calls Try.prog 86 #[.int .u64 0, .int .u64 ((x : Int) * (k : Int)), .int .u64 (q : Int)] wx fun e w' => e = .returned (.int .u64 (r : Int)) ∧ ∃ n, w' = wx.drewN n) := hide_ (fun wx => by
    have h := rem64_small (x * k) q wx hmul (by omega) (by omega)
    rw [← hr, Int.natCast_mul] at h
    exact h)
  have HL := hide_ (fun wx => lowest_ok r q wx hrq (by omega) (Nat.le_trans (Nat.div_le_self _ _) hq))
  clear e0 hkt hk m1 m2 hr
  go_enter Try.func30, Try.ntmps30
  go_wp2_with (go_at_call 33; refine (HC.out _).mono ?_; rintro e w1 ⟨rfl, hb1⟩)
  obtain ⟨g0, g1, hlt⟩ := blk_two hb1
  obtain ⟨c0, c1⟩ := cells_two g0
  have G0 := hide_ g0
  have G1 := hide_ g1
  clear g0 g1
  go_quiet (fail)
  have hx63 : (x : Int) ≤ 4294967296 := by omega
  have hk63 : (k : Int) ≤ 4294967296 := by omega
  go_wp2_with (first | (go_at_call 84; refine (HM.out _).mono ?_; rintro e w' ⟨rfl, rfl⟩))
  have e4 : IntKind.u64.wrap (q : Int) = (q : Int) := IntWalk.u64_in _ (by omega)
  go_region_held3 (fun w' => w'.cell? ⟨w.heap.size, 1, none⟩ = some (.int .i64 (q : Int)))
    (first | go_keep | (rw [(hb5.cell (p := ⟨w.heap.size, 1, none⟩) (by simp; omega))]; assumption))
    ((first | (go_at_call 86; (with_reducible refine (HR.out _).mono ?_); rintro e w' ⟨rfl, n3, rfl⟩) | (go_at_call 85; (with_reducible refine (HL.out _).mono ?_); rintro e w5 ⟨rfl, hb5⟩; obtain ⟨q0, q1⟩ := cells_two ((hb5.block _ (by simp; omega)).trans G1.out); obtain ⟨f0, f1⟩ := free_two ((hb5.block _ (by simp; omega)).trans G1.out))))
  go_wp2
  refine bodyPost_ret (v := .tuple #[.agg (turnV r q), .int .i64 0]) (by simp [results, Try.results30, go_sem, q0, q1, turnV]) rfl ⟨rfl, ?_⟩
  have hg0 := ((((Grew.refl w).alloc (.cells #[.int .i64 (x : Int), .int .i64 (q : Int)] 35)).alloc (.cells #[.int .i64 0, .int .i64 0] 35)).step hb1).drewN (nq + 1 + n3)
  exact Grew.below (by repeat (first | exact Grew.refl _ | assumption | refine Grew.alloc ?_ _ | refine Grew.drewN ?_ _ | refine Grew.drew ?_ | refine Grew.setRow ?_ (by first | assumption | (simp; done) | (simp; omega) | omega) _ | refine Grew.setCell ?_ (by first | assumption | (simp; done) | (simp; omega) | omega) _ | refine Grew.step ?_ (by assumption)))
end Go.Proofs.Ytklhdpkofpkmjaa
