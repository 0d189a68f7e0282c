/- Contracts of the reference's chapter 8 (turns), for turns: Add, Neg, Sub. -/
import Derived.Test.YtklhdpkofpkmjaaR8c
namespace Go.Proofs.Ytklhdpkofpkmjaa
open Go.RowKit
theorem check8_turn (P q : Nat) (w : World) (hP : P < q) (hq : q ≤ 4294967296) : Calls Try.prog 115 #[.agg (turnV P q)] w fun e w' => e = .returned (.int .i64 0) ∧ Below w.heap.size w w' := by
  have h := low_of P q hP
  exact check8_ok _ _ w h.lt (Nat.le_trans h.wle hq) (by rw [Nat.gcd_comm]; exact h.co)
theorem Three.set1 {b : Nat} {x1 x2 y1 y2 r1 r2 : Value} {w : World} (h : Three b x1 x2 y1 y2 r1 r2 w) (u v : Value) : Three b x1 x2 u v r1 r2 (w.setRow (b + 1) #[u, v]) := by
  refine ⟨?_, setRow_heap _ _ _ _ _ _ h.g1, ?_⟩
  · have := h.g0
    simp [World.setRow, Array.getElem?_modify, this]
  · have := h.g2
    simp [World.setRow, Array.getElem?_modify, this]
theorem lcm_swap (a b : Nat) : a / Nat.gcd a b * b = a * (b / Nat.gcd a b) := by
  rw [← Nat.mul_div_assoc _ (Nat.gcd_dvd_right a b), Nat.div_mul_right_comm (Nat.gcd_dvd_left a b)]
theorem add8_turn (P Q q : Nat) (w : World) (hP : P < q) (hQ : Q < q) (hq : q ≤ 4294967296) :
    Calls Try.prog 117 #[.agg (turnV P q), .agg (turnV Q q)] w fun e w' => e = .returned (.tuple #[.agg (turnV ((P + Q) % q) q), .int .i64 0]) ∧ Below w.heap.size w w' := by
  have h1 := low_of P q hP
  have h2 := low_of Q q hQ
  obtain ⟨a1, a2, a3, a4⟩ := add_law h1 h2
  rw [← a4]
  have := add8_low _ _ _ _ w h1.lt (Nat.le_trans h1.wle hq) (by rw [Nat.gcd_comm]; exact h1.co) h2.lt (Nat.le_trans h2.wle hq) (by rw [Nat.gcd_comm]; exact h2.co)
    (by rw [lcm_swap]; exact Nat.le_trans a1 hq) (by rw [lcm_swap]; exact a2) (by rw [lcm_swap]; exact a3)
  rw [lcm_swap] at this
  exact this
theorem neg8_turn (P q : Nat) (w : World) (hP : P < q) (hq : q ≤ 4294967296) :
    Calls Try.prog 116 #[.agg (turnV P q)] w fun e w' => e = .returned (.tuple #[.agg (turnV ((q - P) % q) q), .int .i64 0]) ∧ Below w.heap.size w w' := by
  have h := low_of P q hP
  have e1 : turnV ((q - P) % q) q = turnV ((q / Nat.gcd q P - P / Nat.gcd q P) % (q / Nat.gcd q P)) (q / Nat.gcd q P) := by
    rw [← turnV_scale ((q / Nat.gcd q P - P / Nat.gcd q P) % (q / Nat.gcd q P)) (q / Nat.gcd q P) (Nat.gcd q P) h.hg, ← Nat.mul_mod_mul_right, h.hw, Nat.sub_mul, h.hw, h.hx]
  have hm := neg8_low (P / Nat.gcd q P) (q / Nat.gcd q P) w h.lt (Nat.le_trans h.wle hq) (by rw [Nat.gcd_comm]; exact h.co)
  rw [← e1] at hm
  exact hm
set_option maxHeartbeats 800000 in
set_option maxRecDepth 100000 in
theorem sub8_turn (P Q q : Nat) (w : World) (hP : P < q) (hQ : Q < q) (hq : q ≤ 4294967296) :
    Calls Try.prog 100 #[.agg (turnV P q), .agg (turnV Q q)] w fun e w' => e = .returned (.tuple #[.agg (turnV ((P + (q - Q) % q) % q) q), .int .i64 0]) ∧ Below w.heap.size w w' := by
  have hk := fun wx => check8_turn P q wx hP hq
  have hn := fun wx => neg8_turn Q q wx hQ hq
  have ha := fun wx => add8_turn P ((q - Q) % q) q wx hP (Nat.mod_lt _ (by omega)) hq
  obtain ⟨x1, y1, e1⟩ := turnV_two P q
  obtain ⟨x2, y2, e2⟩ := turnV_two Q q
  obtain ⟨x3, y3, e3⟩ := turnV_two ((q - Q) % q) q
  obtain ⟨x4, y4, e4⟩ := turnV_two ((P + (q - Q) % q) % q) q
  rw [e1] at hk ha
  rw [e2, e3] at hn
  rw [e3, e4] at ha
  rw [e1, e2, e4]
  have HK := hide_ hk
  have HN := hide_ hn
  have HA := hide_ ha
  clear hk hn ha e1 e2 e3 e4
  go_enter Try.func100, Try.ntmps100
  go_wp2_with (first
    | (go_at_call 115; (with_reducible refine (HK.out _).mono ?_); rintro e w1 ⟨rfl, hb1⟩; have t1 := (Three.new w (.int .i64 x1) (.int .i64 y1) (.int .i64 x2) (.int .i64 y2) (.int .i64 0) (.int .i64 0)).below hb1; have g1 := t1.g1; have l1 := t1.lt; have m1 : w.heap.size < w1.heap.size := (by omega))
    | (go_at_call 116; (with_reducible refine (HN.out _).mono ?_); rintro e w2 ⟨rfl, hb2⟩; have t2 := t1.below hb2; have g2 := t2.g1; have l2 := t2.lt; have m2 : w.heap.size < w2.heap.size := (by omega); have t3 := t2.set1 (.int .i64 x3) (.int .i64 y3); have g3 := t3.g0; have g4 := t3.g1)
    | (go_at_call 117; (with_reducible refine (HA.out _).mono ?_); rintro e w3 ⟨rfl, hb3⟩; have t4 := t3.below hb3; have g5 := t4.g2)
    | ((with_reducible apply wpList_load_row (hu := Try.underlying35)); (with_reducible rfl); (with_reducible rfl); rfl; (first | assumption | exact heap_alloc_last _ _ | exact heap_past (by assumption)); rfl; kernel_rfl)
    | ((with_reducible apply wpList_store_blk); (with_reducible rfl); (with_reducible rfl); rfl; assumption; rfl; kernel_rfl; rfl; kernel_rfl))
  refine ret_ct rfl _ 35 _ _ rfl (setRow_heap _ _ _ _ _ _ g5) Try.underlying35 rfl (by kernel_rfl) rfl ⟨rfl, ?_⟩
  have hg0 := ((((Grew.refl w).alloc (.cells #[.int .i64 x1, .int .i64 y1] 35)).alloc (.cells #[.int .i64 x2, .int .i64 y2] 35)).alloc (.cells #[.int .i64 0, .int .i64 0] 35)).step hb1
  have hg1 : Grew w.heap.size w (w2.setRow (w.heap.size + 1) #[.int .i64 x3, .int .i64 y3]) := (hg0.step hb2).setRow (by omega) _
  have hg2 := hg1.step hb3
  exact Grew.below (by repeat (first | exact Grew.refl _ | assumption | refine Grew.alloc ?_ _ | refine Grew.drewN ?_ _ | refine Grew.drew ?_ | refine Grew.setRow ?_ (by first | assumption | (simp; done) | (simp; omega) | omega) _ | refine Grew.setCell ?_ (by first | assumption | (simp; done) | (simp; omega) | omega) _ | refine Grew.step ?_ (by assumption)))
end Go.Proofs.Ytklhdpkofpkmjaa
