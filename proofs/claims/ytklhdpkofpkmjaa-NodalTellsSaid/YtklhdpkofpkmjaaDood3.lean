/- Contracts of package doodson: Times, Over, Conj, Speed; of package turn: Neg, Sub, over one whole. -/
import Derived.Test.YtklhdpkofpkmjaaJoin
namespace Go.Proofs.Ytklhdpkofpkmjaa
open Go.RowKit
theorem heap_at1 (w : World) (o1 o2 : Obj) : ((w.alloc o1).alloc o2).heap[w.heap.size + 1]? = some o2 := by
  have e : (w.alloc o1).heap.size = w.heap.size + 1 := by simp
  rw [← e]
  exact heap_alloc_last _ _
set_option maxHeartbeats 800000 in
set_option maxRecDepth 100000 in
theorem dtimes_ok (f g : Nat → Int) (w : World) (hf : Good f) (hg : Good g) :
    Calls Try.prog 41 #[.agg #[.int .i8 (f 0), .int .i8 (f 1), .int .i8 (f 2), .int .i8 (f 3), .int .i8 (f 4), .int .i8 (f 5)], .agg #[.int .i8 (g 0), .int .i8 (g 1), .int .i8 (g 2), .int .i8 (g 3), .int .i8 (g 4), .int .i8 (g 5)]] w fun e w' =>
      ((Good (op95 f g) ∧ e = .returned (.tuple #[.agg #[.int .i8 (op95 f g 0), .int .i8 (op95 f g 1), .int .i8 (op95 f g 2), .int .i8 (op95 f g 3), .int .i8 (op95 f g 4), .int .i8 (op95 f g 5)], .int .i64 0])) ∨ (¬ Good (op95 f g) ∧ e = .returned (.tuple #[.agg #[.int .i8 0, .int .i8 0, .int .i8 0, .int .i8 0, .int .i8 0, .int .i8 0], .int .i64 210]))) ∧ Below w.heap.size w w' := by
  have HJ := hide_ (fun wx => joined95_ok f g wx hf hg)
  clear hf hg
  go_enter Try.func41, Try.ntmps41
  go_wp2_with fail
  refine (HJ.out _).mono ?_
  rintro e w1 ⟨⟨hgd, rfl⟩ | ⟨hgd, rfl⟩, hb1⟩
  all_goals
    have hgd := hide_ hgd
    have hl := hb1.size
    have n1 : w1.heap[w.heap.size + 1 + 1]? = some (.cells #[.int .i8 0, .int .i8 0, .int .i8 0, .int .i8 0, .int .i8 0, .int .i8 0] 54) := by
      rw [hb1.block _ (by simp)]
      exact heap_at2 _ _ _ _
    have hg0 := ((((Grew.refl w).alloc (.cells #[.int .i8 (f 0), .int .i8 (f 1), .int .i8 (f 2), .int .i8 (f 3), .int .i8 (f 4), .int .i8 (f 5)] 54)).alloc (.cells #[.int .i8 (g 0), .int .i8 (g 1), .int .i8 (g 2), .int .i8 (g 3), .int .i8 (g 4), .int .i8 (g 5)] 54)).alloc (.cells #[.int .i8 0, .int .i8 0, .int .i8 0, .int .i8 0, .int .i8 0, .int .i8 0] 54)).step hb1
    go_wp2_with ((with_reducible apply wpList_store_blk); (with_reducible rfl); (with_reducible rfl); rfl; assumption; rfl; kernel_rfl; rfl; kernel_rfl)
  · refine ret_ct rfl _ 54 _ _ rfl (setRow_heap _ _ _ _ _ _ n1) Try.underlying54 rfl (by kernel_rfl) rfl ⟨.inl ⟨hgd.out, rfl⟩, ?_⟩
    exact Grew.below (by repeat (first | exact Grew.refl _ | assumption | refine Grew.alloc ?_ _ | refine Grew.drewN ?_ _ | refine Grew.drew ?_ | refine Grew.setRow ?_ (by first | assumption | (simp; done) | (simp; omega) | omega) _ | refine Grew.setCell ?_ (by first | assumption | (simp; done) | (simp; omega) | omega) _ | refine Grew.step ?_ (by assumption)))
  · refine ret_ct rfl _ 54 _ _ rfl (setRow_heap _ _ _ _ _ _ n1) Try.underlying54 rfl (by kernel_rfl) rfl ⟨.inr ⟨hgd.out, rfl⟩, ?_⟩
    exact Grew.below (by repeat (first | exact Grew.refl _ | assumption | refine Grew.alloc ?_ _ | refine Grew.drewN ?_ _ | refine Grew.drew ?_ | refine Grew.setRow ?_ (by first | assumption | (simp; done) | (simp; omega) | omega) _ | refine Grew.setCell ?_ (by first | assumption | (simp; done) | (simp; omega) | omega) _ | refine Grew.step ?_ (by assumption)))
set_option maxHeartbeats 800000 in
set_option maxRecDepth 100000 in
theorem dover_ok (f g : Nat → Int) (w : World) (hf : Good f) (hg : Good g) :
    Calls Try.prog 42 #[.agg #[.int .i8 (f 0), .int .i8 (f 1), .int .i8 (f 2), .int .i8 (f 3), .int .i8 (f 4), .int .i8 (f 5)], .agg #[.int .i8 (g 0), .int .i8 (g 1), .int .i8 (g 2), .int .i8 (g 3), .int .i8 (g 4), .int .i8 (g 5)]] w fun e w' =>
      ((Good (op96 f g) ∧ e = .returned (.tuple #[.agg #[.int .i8 (op96 f g 0), .int .i8 (op96 f g 1), .int .i8 (op96 f g 2), .int .i8 (op96 f g 3), .int .i8 (op96 f g 4), .int .i8 (op96 f g 5)], .int .i64 0])) ∨ (¬ Good (op96 f g) ∧ e = .returned (.tuple #[.agg #[.int .i8 0, .int .i8 0, .int .i8 0, .int .i8 0, .int .i8 0, .int .i8 0], .int .i64 210]))) ∧ Below w.heap.size w w' := by
  have HJ := hide_ (fun wx => joined96_ok f g wx hf hg)
  clear hf hg
  go_enter Try.func42, Try.ntmps42
  go_wp2_with fail
  refine (HJ.out _).mono ?_
  rintro e w1 ⟨⟨hgd, rfl⟩ | ⟨hgd, rfl⟩, hb1⟩
  all_goals
    have hgd := hide_ hgd
    have hl := hb1.size
    have n1 : w1.heap[w.heap.size + 1 + 1]? = some (.cells #[.int .i8 0, .int .i8 0, .int .i8 0, .int .i8 0, .int .i8 0, .int .i8 0] 54) := by
      rw [hb1.block _ (by simp)]
      exact heap_at2 _ _ _ _
    have hg0 := ((((Grew.refl w).alloc (.cells #[.int .i8 (f 0), .int .i8 (f 1), .int .i8 (f 2), .int .i8 (f 3), .int .i8 (f 4), .int .i8 (f 5)] 54)).alloc (.cells #[.int .i8 (g 0), .int .i8 (g 1), .int .i8 (g 2), .int .i8 (g 3), .int .i8 (g 4), .int .i8 (g 5)] 54)).alloc (.cells #[.int .i8 0, .int .i8 0, .int .i8 0, .int .i8 0, .int .i8 0, .int .i8 0] 54)).step hb1
    go_wp2_with ((with_reducible apply wpList_store_blk); (with_reducible rfl); (with_reducible rfl); rfl; assumption; rfl; kernel_rfl; rfl; kernel_rfl)
  · refine ret_ct rfl _ 54 _ _ rfl (setRow_heap _ _ _ _ _ _ n1) Try.underlying54 rfl (by kernel_rfl) rfl ⟨.inl ⟨hgd.out, rfl⟩, ?_⟩
    exact Grew.below (by repeat (first | exact Grew.refl _ | assumption | refine Grew.alloc ?_ _ | refine Grew.drewN ?_ _ | refine Grew.drew ?_ | refine Grew.setRow ?_ (by first | assumption | (simp; done) | (simp; omega) | omega) _ | refine Grew.setCell ?_ (by first | assumption | (simp; done) | (simp; omega) | omega) _ | refine Grew.step ?_ (by assumption)))
  · refine ret_ct rfl _ 54 _ _ rfl (setRow_heap _ _ _ _ _ _ n1) Try.underlying54 rfl (by kernel_rfl) rfl ⟨.inr ⟨hgd.out, rfl⟩, ?_⟩
    exact Grew.below (by repeat (first | exact Grew.refl _ | assumption | refine Grew.alloc ?_ _ | refine Grew.drewN ?_ _ | refine Grew.drew ?_ | refine Grew.setRow ?_ (by first | assumption | (simp; done) | (simp; omega) | omega) _ | refine Grew.setCell ?_ (by first | assumption | (simp; done) | (simp; omega) | omega) _ | refine Grew.step ?_ (by assumption)))
set_option maxHeartbeats 800000 in
set_option maxRecDepth 100000 in
theorem dconj_ok (f : Nat → Int) (w : World) (hf : Good f) :
    Calls Try.prog 44 #[.agg #[.int .i8 (f 0), .int .i8 (f 1), .int .i8 (f 2), .int .i8 (f 3), .int .i8 (f 4), .int .i8 (f 5)]] w fun e w' =>
      ((Good (op97 f f) ∧ e = .returned (.tuple #[.agg #[.int .i8 (op97 f f 0), .int .i8 (op97 f f 1), .int .i8 (op97 f f 2), .int .i8 (op97 f f 3), .int .i8 (op97 f f 4), .int .i8 (op97 f f 5)], .int .i64 0])) ∨ (¬ Good (op97 f f) ∧ e = .returned (.tuple #[.agg #[.int .i8 0, .int .i8 0, .int .i8 0, .int .i8 0, .int .i8 0, .int .i8 0], .int .i64 210]))) ∧ Below w.heap.size w w' := by
  have HJ := hide_ (fun wx => joined97_ok f f wx hf hf)
  clear hf 
  go_enter Try.func44, Try.ntmps44
  go_wp2_with fail
  refine (HJ.out _).mono ?_
  rintro e w1 ⟨⟨hgd, rfl⟩ | ⟨hgd, rfl⟩, hb1⟩
  all_goals
    have hgd := hide_ hgd
    have hl := hb1.size
    have n1 : w1.heap[w.heap.size + 1]? = some (.cells #[.int .i8 0, .int .i8 0, .int .i8 0, .int .i8 0, .int .i8 0, .int .i8 0] 54) := by
      rw [hb1.block _ (by simp)]
      exact heap_at1 _ _ _
    have hg0 := (((Grew.refl w).alloc (.cells #[.int .i8 (f 0), .int .i8 (f 1), .int .i8 (f 2), .int .i8 (f 3), .int .i8 (f 4), .int .i8 (f 5)] 54)).alloc (.cells #[.int .i8 0, .int .i8 0, .int .i8 0, .int .i8 0, .int .i8 0, .int .i8 0] 54)).step hb1
    go_wp2_with ((with_reducible apply wpList_store_blk); (with_reducible rfl); (with_reducible rfl); rfl; assumption; rfl; kernel_rfl; rfl; kernel_rfl)
  · refine ret_ct rfl _ 54 _ _ rfl (setRow_heap _ _ _ _ _ _ n1) Try.underlying54 rfl (by kernel_rfl) rfl ⟨.inl ⟨hgd.out, rfl⟩, ?_⟩
    exact Grew.below (by repeat (first | exact Grew.refl _ | assumption | refine Grew.alloc ?_ _ | refine Grew.drewN ?_ _ | refine Grew.drew ?_ | refine Grew.setRow ?_ (by first | assumption | (simp; done) | (simp; omega) | omega) _ | refine Grew.setCell ?_ (by first | assumption | (simp; done) | (simp; omega) | omega) _ | refine Grew.step ?_ (by assumption)))
  · refine ret_ct rfl _ 54 _ _ rfl (setRow_heap _ _ _ _ _ _ n1) Try.underlying54 rfl (by kernel_rfl) rfl ⟨.inr ⟨hgd.out, rfl⟩, ?_⟩
    exact Grew.below (by repeat (first | exact Grew.refl _ | assumption | refine Grew.alloc ?_ _ | refine Grew.drewN ?_ _ | refine Grew.drew ?_ | refine Grew.setRow ?_ (by first | assumption | (simp; done) | (simp; omega) | omega) _ | refine Grew.setCell ?_ (by first | assumption | (simp; done) | (simp; omega) | omega) _ | refine Grew.step ?_ (by assumption)))

theorem neg_turn (P q : Nat) (w : World) (hP : P < q) (hq : q ≤ 4294967296) :
    Calls Try.prog 45 #[.agg (turnV P q)] w fun e w' => e = .returned (.tuple #[.agg (turnV ((q - P) % q) q), .int .i64 0]) ∧ Below w.heap.size w w' := by
  have h := low_of P q hP
  generalize Nat.gcd q P = g at h
  have hw := h.wpos
  have hlt := h.lt
  have e1 : turnV ((q - P) % q) q = turnV ((q / g - P / g) % (q / g)) (q / g) := by
    rw [← turnV_scale ((q / g - P / g) % (q / g)) (q / g) g h.hg, ← Nat.mul_mod_mul_right, h.hw, Nat.sub_mul, h.hw, h.hx]
  have hgc : Nat.gcd (q / g) ((q / g - P / g) % (q / g)) = 1 := by
    have hco := h.co
    rcases Nat.eq_zero_or_pos (P / g) with h0 | h0
    · rw [h0, Nat.gcd_zero_right] at hco
      rw [h0, hco]
      rfl
    · rw [Nat.mod_eq_of_lt (by omega), Nat.gcd_self_sub_right (by omega)]
      exact hco
  have hm := neg_low (P / g) (q / g) w hlt (Nat.le_trans h.wle hq) h.co
  have e2 : turnV ((q / g - P / g) % (q / g)) (q / g) = #[.int .i64 ((((q / g : Nat) : Int) - ((P / g : Nat) : Int)) % ((q / g : Nat) : Int)), .int .i64 ((q / g : Nat) : Int)] := by
    unfold turnV
    rw [hgc, Nat.div_one, Nat.div_one, Int.natCast_emod, Int.ofNat_sub (by omega)]
  have e3 : turnV P q = #[.int .i64 ((P / g : Nat) : Int), .int .i64 ((q / g : Nat) : Int)] := by
    rw [h.turn]
    unfold turnV
    rw [h.co, Nat.div_one, Nat.div_one]
  rw [e1, e2, e3]
  exact hm
set_option maxHeartbeats 800000 in
set_option maxRecDepth 100000 in
theorem sub_turn (P Q q : Nat) (w : World) (hP : P < q) (hQ : Q < q) (hq : q ≤ 4294967296) :
    Calls Try.prog 43 #[.agg (turnV P q), .agg (turnV Q q)] w fun e w' => e = .returned (.tuple #[.agg (turnV ((P + (q - Q) % q) % q) q), .int .i64 0]) ∧ Below w.heap.size w w' := by
  have hk := fun wx => check_turn P q wx hP hq
  have hn := fun wx => neg_turn Q q wx hQ hq
  have ha := fun wx => add_turn P ((q - Q) % q) q wx hP (Nat.mod_lt _ (by omega)) hq
  obtain ⟨x1, y1, e1⟩ := turnV_two P q
  obtain ⟨x2, y2, e2⟩ := turnV_two Q q
  obtain ⟨x3, y3, e3⟩ := turnV_two ((q - Q) % q) q
  obtain ⟨x4, y4, e4⟩ := turnV_two ((P + (q - Q) % q) % q) q
  rw [e1] at hk ha
  rw [e2, e3] at hn
  rw [e3, e4] at ha
  rw [e1, e2, e4]
  have HK := hide_ hk
  have HN := hide_ hn
  have HA := hide_ ha
  clear hk hn ha e1 e2 e3 e4
  go_enter Try.func43, Try.ntmps43
  go_wp2_with (first
    | (go_at_call 33; (with_reducible refine (HK.out _).mono ?_); rintro e w1 ⟨rfl, hb1⟩; have t1 := (Three.new w (.int .i64 x1) (.int .i64 y1) (.int .i64 x2) (.int .i64 y2) (.int .i64 0) (.int .i64 0)).below hb1; obtain ⟨b0, b1⟩ := cells_two t1.g1; have l1 := t1.lt; have m1 : w.heap.size < w1.heap.size := by omega)
    | (go_at_call 45; (with_reducible refine (HN.out _).mono ?_); rintro e w2 ⟨rfl, hb2⟩; have t2 := t1.below hb2; obtain ⟨a0, a1⟩ := cells_two t2.g0; have l2 := t2.lt; have m2 : w.heap.size < w2.heap.size := by omega)
    | (go_at_call 31; (with_reducible refine (HA.out _).mono ?_); rintro e w3 ⟨rfl, hb3⟩; have t3 := (t2.below ((Below.refl _ _).alloc (Nat.le_refl _) _)).below hb3; have g3 := t3.g2)
    | ((with_reducible apply wpList_store_blk); (with_reducible rfl); (with_reducible rfl); rfl; assumption; rfl; kernel_rfl; rfl; kernel_rfl))
  refine ret_ct rfl _ 35 _ _ rfl (setRow_heap _ _ _ _ _ _ g3) Try.underlying35 rfl (by kernel_rfl) rfl ⟨rfl, ?_⟩
  have hg0 := ((((Grew.refl w).alloc (.cells #[.int .i64 x1, .int .i64 y1] 35)).alloc (.cells #[.int .i64 x2, .int .i64 y2] 35)).alloc (.cells #[.int .i64 0, .int .i64 0] 35)).step hb1
  exact Grew.below (by repeat (first | exact Grew.refl _ | assumption | refine Grew.alloc ?_ _ | refine Grew.drewN ?_ _ | refine Grew.drew ?_ | refine Grew.setRow ?_ (by first | assumption | (simp; done) | (simp; omega) | omega) _ | refine Grew.setCell ?_ (by first | assumption | (simp; done) | (simp; omega) | omega) _ | refine Grew.step ?_ (by assumption)))
/-- The numbers' speeds, together. -/
theorem speed_cells (k : Nat) : ((3600000000 : Int) / ((3600000000 / Nat.gcd 3600000000 (rowAdds k).toNat : Nat) : Int)) * (((rowAdds k).toNat / Nat.gcd 3600000000 (rowAdds k).toNat : Nat) : Int) = rowAdds k := by
  have hb := adds_bd k
  have hl := low_of (rowAdds k).toNat 3600000000 (by omega)
  generalize Nat.gcd 3600000000 (rowAdds k).toNat = g at hl
  have hw := hl.hw
  have hwp := hl.wpos
  have e : (3600000000 : Int) / ((3600000000 / g : Nat) : Int) = (g : Int) := by
    conv => lhs; lhs; rw [show (3600000000 : Int) = ((3600000000 / g : Nat) : Int) * (g : Int) by rw [← Int.natCast_mul, hw]; rfl]
    exact Int.mul_ediv_cancel_left _ (by omega)
  rw [e, ← Int.natCast_mul, Nat.mul_comm, hl.hx]
  omega
end Go.Proofs.Ytklhdpkofpkmjaa
