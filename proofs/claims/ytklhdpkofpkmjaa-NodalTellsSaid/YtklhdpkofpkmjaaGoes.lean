/- AngleGoes: from a tick to a later one an angle goes on by as many of its speeds. -/
import Derived.Test.YtklhdpkofpkmjaaLunar
import Derived.Test.YtklhdpkofpkmjaaAng3
import Derived.Test.YtklhdpkofpkmjaaTurn4
namespace Go.Proofs.Ytklhdpkofpkmjaa
open Go.RowKit
/-- A turn in lowest terms is taken for one. -/
theorem check_turn (P q : Nat) (w : World) (hP : P < q) (hq : q ≤ 4294967296) : Calls Try.prog 33 #[.agg (turnV P q)] w fun e w' => e = .returned (.int .i64 0) ∧ Below w.heap.size w w' := by
  have h := low_of P q hP
  exact tcheck_ok _ _ w h.lt (Nat.le_trans h.wle hq) h.co
theorem times_turn (P q : Nat) (n : Int) (w : World) (hP : P < q) (hq : q ≤ 4294967296) (hn : -2147483648 ≤ n) (hn2 : n ≤ 2147483647) :
    Calls Try.prog 30 #[.agg (turnV P q), .int .i32 n] w fun e w' => e = .returned (.tuple #[.agg (turnV (((P : Int) * n) % (q : Int)).toNat q), .int .i64 0]) ∧ Below w.heap.size w w' := by
  have h := low_of P q hP
  rw [← times_law h n]
  exact times_low _ _ n w h.lt (Nat.le_trans h.wle hq) h.co hn hn2
theorem add_turn (P Q q : Nat) (w : World) (hP : P < q) (hQ : Q < q) (hq : q ≤ 4294967296) :
    Calls Try.prog 31 #[.agg (turnV P q), .agg (turnV Q q)] w fun e w' => e = .returned (.tuple #[.agg (turnV ((P + Q) % q) q), .int .i64 0]) ∧ Below w.heap.size w w' := by
  have h1 := low_of P q hP
  have h2 := low_of Q q hQ
  obtain ⟨a1, a2, a3, a4⟩ := add_law h1 h2
  rw [← a4]
  exact add_low _ _ _ _ w h1.lt (Nat.le_trans h1.wle hq) h1.co h2.lt (Nat.le_trans h2.wle hq) h2.co (Nat.le_trans a1 hq) a3
/-- A block of two cells, as it was laid. -/
def P2 (w : World) (g : Nat) (a b : Value) : Prop := w.cell? ⟨g, 0, none⟩ = some a ∧ w.cell? ⟨g, 1, none⟩ = some b ∧ g < w.heap.size
theorem P2.stay {w w' : World} {g : Nat} {a b : Value} (h : P2 w g a b) (hb : Below w.heap.size w w') : P2 w' g a b :=
  ⟨(hb.cell (p := ⟨g, 0, none⟩) h.2.2).trans h.1, (hb.cell (p := ⟨g, 1, none⟩) h.2.2).trans h.2.1, Nat.lt_of_lt_of_le h.2.2 hb.size⟩
theorem P2.step {w w' : World} {g : Nat} {a b : Value} {o : Obj} (h : P2 w g a b) (hb : Below (w.alloc o).heap.size (w.alloc o) w') : P2 w' g a b :=
  P2.stay (w := w.alloc o) ⟨by rw [World.cell?_alloc_past _ _ _ h.2.2]; exact h.1, by rw [World.cell?_alloc_past _ _ _ h.2.2]; exact h.2.1, by have := h.2.2; simp; omega⟩ hb
theorem P2.new {w w' : World} {a b : Value} {T : TypeId} (hb : Below (w.alloc (.cells #[a, b] T)).heap.size (w.alloc (.cells #[a, b] T)) w') : P2 w' w.heap.size a b := blk2 hb
theorem unit_next (k : Nat) (t s : Int) : unit k (t + s) = (unit k t + rowAdds k * s) % 3600000000 := by
  unfold unit
  rw [Int.mul_add, ← Int.add_assoc, Int.emod_add_emod]
theorem goes_law (k : Nat) (t s : Int) : ((unit k t).toNat + (((rowAdds k).toNat : Int) * s % ((3600000000 : Nat) : Int)).toNat) % 3600000000 = (unit k (t + s)).toNat := by
  have h1 := unit_bd k t
  have h2 := adds_bd k
  have h3 := unit_next k t s
  have h4 := unit_bd k (t + s)
  rw [Int.toNat_of_nonneg h2.1]
  have h5 : ((3600000000 : Nat) : Int) = 3600000000 := rfl
  rw [h5]
  omega
theorem goes_no (k a s : Int) (w : World) (h : k < 0 ∨ 5 < k ∨ a < 0 ∨ 1048576 < a ∨ s < 0 ∨ 1048576 - a < s) : Calls Try.prog 6 #[.int .i64 k, .int .i64 a, .int .i64 s] w fun e w' => e = .returned (.bool true) ∧ Below w.heap.size w w' := by
  by_cases h1 : k < 0
  · go_enter Try.func6, Try.ntmps6
    go_wp2_with (go_at_call 16; refine (awake10 _).mono ?_; rintro e w1 ⟨rfl, hb1⟩)
    go_ret
    exact ⟨rfl, hb1⟩
  have h1 : 0 ≤ k := by omega
  by_cases h2 : 5 < k
  · go_enter Try.func6, Try.ntmps6
    go_wp2_with (go_at_call 16; refine (awake10 _).mono ?_; rintro e w1 ⟨rfl, hb1⟩)
    go_ret
    exact ⟨rfl, hb1⟩
  have h2 : k ≤ 5 := by omega
  by_cases h3 : a < 0
  · go_enter Try.func6, Try.ntmps6
    go_wp2_with (go_at_call 16; refine (awake10 _).mono ?_; rintro e w1 ⟨rfl, hb1⟩)
    go_ret
    exact ⟨rfl, hb1⟩
  have h3 : 0 ≤ a := by omega
  by_cases h4 : 1048576 < a
  · go_enter Try.func6, Try.ntmps6
    go_wp2_with (go_at_call 16; refine (awake10 _).mono ?_; rintro e w1 ⟨rfl, hb1⟩)
    go_ret
    exact ⟨rfl, hb1⟩
  have h4 : a ≤ 1048576 := by omega
  by_cases h5 : s < 0
  · go_enter Try.func6, Try.ntmps6
    go_wp2_with (go_at_call 16; refine (awake10 _).mono ?_; rintro e w1 ⟨rfl, hb1⟩)
    go_ret
    exact ⟨rfl, hb1⟩
  have h5 : 0 ≤ s := by omega
  have h6 : 1048576 - a < s := by omega
  go_enter Try.func6, Try.ntmps6
  go_wp2_with (go_at_call 16; refine (awake10 _).mono ?_; rintro e w1 ⟨rfl, hb1⟩)
  go_ret
  exact ⟨rfl, hb1⟩
set_option maxHeartbeats 1600000 in
set_option maxRecDepth 100000 in
theorem goes_ok (k : Nat) (a s : Int) (w : World) (hk : k < 6) (ha : 0 ≤ a) (ha2 : a ≤ 1048576) (hs : 0 ≤ s) (hs2 : s ≤ 1048576 - a) :
    Calls Try.prog 6 #[.int .i64 (k : Int), .int .i64 a, .int .i64 s] w fun e w' => e = .returned (.bool true) ∧ Below w.heap.size w w' := by
  have u1 := unit_bd k a
  have u2 := unit_bd k (a + s)
  have d1 := adds_bd k
  have hk5 : (k : Int) ≤ 5 := by omega
  have hk0 : (0 : Int) ≤ (k : Int) := by omega
  have hA := fun wx => angle_ok k a wx hk ha ha2
  have hB := fun wx => angle_ok k (a + s) wx hk (by omega) (by omega)
  have hS := fun wx => speed_ok k wx hk
  have hU := fun wx => units_ok k (a + s) wx hk (by omega) (by omega)
  have hT := fun wx => times_turn (rowAdds k).toNat 3600000000 s wx (by omega) (by omega) (by omega) (by omega)
  have hWl : (((rowAdds k).toNat : Int) * s % ((3600000000 : Nat) : Int)).toNat < 3600000000 := by
    have := Int.emod_lt_of_pos (((rowAdds k).toNat : Int) * s) (show (0 : Int) < ((3600000000 : Nat) : Int) by omega)
    have := Int.emod_nonneg (((rowAdds k).toNat : Int) * s) (show ((3600000000 : Nat) : Int) ≠ 0 by omega)
    omega
  have hC := fun wx => add_turn (unit k a).toNat (((rowAdds k).toNat : Int) * s % ((3600000000 : Nat) : Int)).toNat 3600000000 wx (by omega) hWl (by omega)
  rw [goes_law] at hC
  have hD := fun wx => of_circle (unit k (a + s)) wx
  rw [show unit k (a + s) % 3600000000 = unit k (a + s) from Int.emod_eq_of_lt u2.1 u2.2] at hD
  have hK := fun wx => check_turn (unit k (a + s)).toNat 3600000000 wx (by omega) (by omega)
  obtain ⟨x1, y1, e1⟩ := turnV_two (unit k a).toNat 3600000000
  obtain ⟨x2, y2, e2⟩ := turnV_two (unit k (a + s)).toNat 3600000000
  obtain ⟨x3, y3, e3⟩ := turnV_two (rowAdds k).toNat 3600000000
  obtain ⟨x4, y4, e4⟩ := turnV_two (((rowAdds k).toNat : Int) * s % ((3600000000 : Nat) : Int)).toNat 3600000000
  rw [e1] at hA hC
  rw [e2] at hB hC hD hK
  rw [e3] at hS hT
  rw [e4] at hT hC
  have HA := hide_ hA
  have HB := hide_ hB
  have HS := hide_ hS
  have HU := hide_ hU
  have HT := hide_ hT
  have HC := hide_ hC
  have HD := hide_ hD
  have HK := hide_ hK
  clear hA hB hS hU hT hC hD hK e1 e2 e3 e4 hWl d1
  go_enter Try.func6, Try.ntmps6
  go_wp2_with (first
    | (go_at_call 16; (with_reducible refine (awake10 _).mono ?_); rintro e w1 ⟨rfl, hb1⟩)
    | (go_at_call 22; (with_reducible refine (HA.out _).mono ?_); rintro e w2 ⟨rfl, hb2⟩)
    | (go_at_call 22; (with_reducible refine (HB.out _).mono ?_); rintro e w3 ⟨rfl, hb3⟩; have pA3 := P2.new hb3)
    | (go_at_call 21; (with_reducible refine (HS.out _).mono ?_); rintro e w4 ⟨rfl, hb4⟩; have pB4 := P2.new hb4; have pA4 := P2.step pA3 hb4)
    | (go_at_call 19; (with_reducible refine (HU.out _).mono ?_); rintro e w5 ⟨rfl, hb5⟩; obtain ⟨s0, s1, s2⟩ := P2.new hb5; have pB5 := P2.step pB4 hb5; have pA5 := P2.step pA4 hb5)
    | (go_at_call 30; (with_reducible refine (HT.out _).mono ?_); rintro e w6 ⟨rfl, hb6⟩; have pB6 := P2.stay pB5 hb6; obtain ⟨a0, a1, a2⟩ := P2.stay pA5 hb6)
    | (go_at_call 31; (with_reducible refine (HC.out _).mono ?_); rintro e w7 ⟨rfl, hb7⟩; have pB7 := P2.step pB6 hb7)
    | (go_at_call 32; (with_reducible refine (HD.out _).mono ?_); rintro e w8 ⟨rfl, hb8⟩; have pB8 := P2.step pB7 hb8; obtain ⟨b0, b1, b2⟩ := pB8; have pC8 := P2.new hb8)
    | (go_at_call 33; (with_reducible refine (HK.out _).mono ?_); rintro e w9 ⟨rfl, hb9⟩; have pB9 := P2.step (show P2 w8 _ _ _ from ⟨b0, b1, b2⟩) hb9; obtain ⟨p0, p1, p2⟩ := pB9; obtain ⟨c0, c1, c2⟩ := P2.step pC8 hb9))
  go_ret
  refine ⟨rfl, ?_⟩
  have hg0 := Grew.of hb1
  exact Grew.below (by repeat (first | exact Grew.refl _ | assumption | refine Grew.alloc ?_ _ | refine Grew.drewN ?_ _ | refine Grew.drew ?_ | refine Grew.setRow ?_ (by first | assumption | (simp; done) | (simp; omega) | omega) _ | refine Grew.setCell ?_ (by first | assumption | (simp; done) | (simp; omega) | omega) _ | refine Grew.step ?_ (by assumption)))
theorem goes_walk (k a s : Int) (_w0 : (Lit.int .i64 k).wf = true) (_w1 : (Lit.int .i64 a).wf = true) (_w2 : (Lit.int .i64 s).wf = true) (w : World) :
    Calls Try.prog 6 #[.int .i64 k, .int .i64 a, .int .i64 s] w fun e w' => e = .returned (.bool true) ∧ Below w.heap.size w w' := by
  by_cases h : k < 0 ∨ 5 < k ∨ a < 0 ∨ 1048576 < a ∨ s < 0 ∨ 1048576 - a < s
  · exact goes_no k a s w h
  · obtain ⟨n, rfl⟩ := Int.eq_ofNat_of_zero_le (show 0 ≤ k by omega)
    exact goes_ok n a s w (by omega) (by omega) (by omega) (by omega) (by omega)
end Go.Proofs.Ytklhdpkofpkmjaa
