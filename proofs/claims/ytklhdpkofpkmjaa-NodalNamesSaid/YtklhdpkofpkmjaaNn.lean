/- NodalNames: the law's walk. -/
import Derived.Test.YtklhdpkofpkmjaaTm3
import Derived.Test.YtklhdpkofpkmjaaNd5
namespace Go.Proofs.Ytklhdpkofpkmjaa
open Go.RowKit Ieee
set_option linter.unusedVariables false
set_option maxRecDepth 100000
theorem past2 {w : World} {g : Nat} {o : Obj} (h : w.heap[g]? = some o) (a b c d : Array Value) (S T : TypeId) : ((((w.alloc (.cells a S)).alloc (.cells b T)).setRow w.heap.size c).setRow (w.heap.size + 1) d).heap[g]? = some o := by
  have hl := lt_of_heap h
  exact (setRow_other _ _ _ _ (by omega)).trans ((setRow_other _ _ _ _ (by omega)).trans (heap_past (heap_past h)))
theorem last2 (w : World) (a b c d : Array Value) (S T : TypeId) (o : Obj) : (((((w.alloc (.cells a S)).alloc (.cells b T)).setRow w.heap.size c).setRow (w.heap.size + 1) d).alloc o).heap[w.heap.size + 1 + 1]? = some o := by
  have e : ((((w.alloc (.cells a S)).alloc (.cells b T)).setRow w.heap.size c).setRow (w.heap.size + 1) d).heap.size = w.heap.size + 1 + 1 := by simp [World.setRow]
  rw [← e]
  exact heap_alloc_last _ _
theorem times_nil (w : World) : Calls Try.prog 70 #[.slice none 0 0, .int .i64 0] w fun e w' => e = .returned (.tuple #[.float .f64 ONE, .agg #[.int .i64 0, .int .i64 1], .agg #[.int .i64 0, .int .i64 0]]) ∧ Below w.heap.size w w' := by
  refine (times_ix none 0 0 (fun _ => .empty) 0 w (by omega) (.inl rfl) (by omega) (by omega)).mono ?_
  rintro e w' ⟨⟨i, hi, _⟩ | ⟨_, rfl⟩, hb⟩
  · omega
  · exact ⟨by kernel_rfl, hb⟩
theorem times_bad2 (g : Nat) (w : World) (h : w.heap[g]? = some (.cells #[.string ⟨#[77, 50]⟩, .string ⟨#[120]⟩] 9)) : Calls Try.prog 70 #[.slice (some ⟨g, 0, none⟩) 2 2, .int .i64 0] w fun e w' =>
    e = .returned (.tuple #[.float .f64 0, .agg #[.int .i64 0, .int .i64 0], .agg #[.int .i64 6, .int .i64 1]]) ∧ Below w.heap.size w w' := by
  refine (times_ix (some ⟨g, 0, none⟩) 2 2 (fun j => if j = 0 then ⟨#[77, 50]⟩ else ⟨#[120]⟩) 0 w (by omega) (.inr ⟨g, 0, rfl, lt_of_heap h, fun j hj => ?_⟩) (by omega) (by omega)).mono ?_
  · rw [cell_of_row _ _ _ _ _ _ h]
    rcases (show j = 0 ∨ j = 1 by omega) with rfl | rfl <;> rfl
  · have x0 : isN ⟨#[77, 50]⟩ = true := by decide +kernel
    have x1 : isN ⟨#[120]⟩ = false := by decide +kernel
    rintro e w' ⟨⟨i, hi, hall, hno, rfl⟩ | ⟨hall, _⟩, hb⟩
    · rcases (show i = 0 ∨ i = 1 by omega) with rfl | rfl
      · have : isN ⟨#[77, 50]⟩ = false := hno
        rw [x0] at this; cases this
      · exact ⟨rfl, hb⟩
    · have : isN ⟨#[120]⟩ = true := hall 1 (by omega)
      rw [x1] at this; cases this
theorem span_lit0 (w : World) : Calls Try.prog 89 #[.int .i64 0, .int .i64 3] w fun e w' => e = .returned (.int .i64 0) ∧ w = w' := by
  go_enter Try.func89, Try.ntmps89
  go_wp2
  go_ret
  exact ⟨rfl, rfl⟩
theorem span_lit1 (w : World) : Calls Try.prog 89 #[.int .i64 3, .int .i64 3] w fun e w' => e = .returned (.int .i64 0) ∧ w = w' := by
  go_enter Try.func89, Try.ntmps89
  go_wp2
  go_ret
  exact ⟨rfl, rfl⟩
theorem span_lit2 (w : World) : Calls Try.prog 89 #[.int .i64 0, .int .i64 5000] w fun e w' => e = .returned (.int .i64 3) ∧ w = w' := by
  go_enter Try.func89, Try.ntmps89
  go_wp2
  go_ret
  exact ⟨rfl, rfl⟩
def s2F (t : Int) : Nat := if 0 ≤ t ∧ t ≤ 1048576 then ONE else 0
def s2E (t : Int) : Int := if 0 ≤ t ∧ t ≤ 1048576 then 0 else 2
theorem s2_calls (t : Int) (wx : World) : Calls Try.prog 49 #[.string ⟨#[83, 50]⟩, .int .i64 t] wx fun e w' => e = .returned (.tuple #[.float .f64 (s2F t), .int .i64 (s2E t)]) ∧ Below wx.heap.size wx w' := by
  unfold s2F s2E
  by_cases h : 0 ≤ t ∧ t ≤ 1048576
  · rw [if_pos h, if_pos h]
    have := (name_calls ⟨#[83, 50]⟩ t h.1 h.2 (by decide +kernel)).2.2.1 wx
    have hf : sF t ⟨#[83, 50]⟩ = ONE := fac_still (nRe_abs t)
    rw [hf] at this
    exact this
  · rw [if_neg h, if_neg h]
    exact factor_e ⟨#[83, 50]⟩ t 2 wx (by decide) (hide_ (fun wy => look_e ⟨#[83, 50]⟩ t 2 wy (by decide) (hide_ (fun wz => node_no t wz (by omega)))))
theorem mean_one (w : World) : Calls Try.prog 34 #[.string ⟨#[83, 50]⟩, .int .i64 0, .int .i64 3] w fun e w' => e = .returned (.tuple #[.float .f64 ONE, .int .i64 0]) ∧ Below w.heap.size w w' := by
  have h := mean_o ⟨#[83, 50]⟩ 0 3 _ _ _ s2F s2E w (by omega) (by omega) (by omega) (by omega) (fun t => by
    unfold s2F
    split
    · exact (abs_one pos_one.abs).up (by decide)
    · exact row_bz.1.up (by decide)) (hide_ (fun wx => span_lit0 wx)) (hide_ find_S2.1) (hide_ s2_calls)
  have hv : fd (sumB s2F 0 3) (floatOfInt .f64 ((3 : Nat) : Int)) = ONE := by decide +kernel
  rw [hv] at h
  exact h
theorem mean_two (w : World) : Calls Try.prog 34 #[.string ⟨#[83, 50]⟩, .int .i64 3, .int .i64 3] w fun e w' => e = .returned (.tuple #[.float .f64 0, .int .i64 2]) ∧ Below w.heap.size w w' :=
  mean_z ⟨#[83, 50]⟩ 3 3 w rfl (hide_ span_lit1)
theorem mean_three (w : World) : Calls Try.prog 34 #[.string ⟨#[83, 50]⟩, .int .i64 0, .int .i64 5000] w fun e w' => e = .returned (.tuple #[.float .f64 0, .int .i64 3]) ∧ Below w.heap.size w w' :=
  mean_e ⟨#[83, 50]⟩ 0 5000 3 w (by decide) (hide_ span_lit2)
theorem fac_m2 (w : World) : Calls Try.prog 49 #[.string ⟨#[109, 50]⟩, .int .i64 5] w fun e w' => e = .returned (.tuple #[.float .f64 0, .int .i64 6]) ∧ Below w.heap.size w w' := by
  have hf := (find_ix ⟨#[109, 50]⟩).1
  rw [show isN ⟨#[109, 50]⟩ = false by decide +kernel] at hf
  exact factor_e ⟨#[109, 50]⟩ 5 6 w (by decide) (hide_ (fun wy => look_m ⟨#[109, 50]⟩ 5 _ _ _ _ _ wy (hide_ (fun wx => node_ok 5 wx (by omega) (by omega))) (hide_ hf)))
theorem fac_M2 (w : World) : Calls Try.prog 49 #[.string ⟨#[77, 50]⟩, .int .i64 (-1)] w fun e w' => e = .returned (.tuple #[.float .f64 0, .int .i64 2]) ∧ Below w.heap.size w w' :=
  factor_e ⟨#[77, 50]⟩ (-1) 2 w (by decide) (hide_ (fun wy => look_e ⟨#[77, 50]⟩ (-1) 2 wy (by decide) (hide_ (fun wz => node_no (-1) wz (by omega)))))
set_option maxHeartbeats 4000000 in
theorem nnames_walk (w : World) : Calls Try.prog 13 #[] w fun e w' => e = .returned (.bool true) ∧ Below w.heap.size w w' := by
  have hmk : ∀ wx : World, (Instr.makeSlice 28 (.int .i64 9) (.int .i64 9)).run Try.prog wx = .ok (.slice (some ⟨wx.heap.size, 0, none⟩) 9 9) (wx.alloc (.cells #[.string ⟨#[]⟩, .string ⟨#[]⟩, .string ⟨#[]⟩, .string ⟨#[]⟩, .string ⟨#[]⟩, .string ⟨#[]⟩, .string ⟨#[]⟩, .string ⟨#[]⟩, .string ⟨#[]⟩] 9)) := fun wx => by kernel_rfl
  go_enter Try.func13, Try.ntmps13
  go_wp2_with (first
    | (go_at_call 49; (with_reducible refine (fac_m2 _).mono ?_); rintro e w1 ⟨rfl, hb1⟩)
    | (go_at_call 49; (with_reducible refine (fac_M2 _).mono ?_); rintro e w2 ⟨rfl, hb2⟩)
    | (go_at_call 66; (with_reducible refine (node_no _ _ (by omega)).mono ?_); rintro e w3 ⟨rfl, hb3⟩)
    | (go_at_call 70; (with_reducible refine (times_nil _).mono ?_); rintro e w4 ⟨rfl, hb4⟩; obtain ⟨a4, a41⟩ := two_blocks w4 #[.int .i64 0, .int .i64 0] #[.int .i64 0, .int .i64 0] 35 79; obtain ⟨b4, b41, b42⟩ := rows_set (c := #[.int .i64 0, .int .i64 1]) (d := #[.int .i64 0, .int .i64 0]) a4 a41)
    | (go_at_call 70; (with_reducible refine (times_long _ 9 9 0 _ (by omega) (by omega)).mono ?_); rintro e w5 ⟨rfl, hb5⟩; have p41 := heap_past (o' := (.cells #[.string ⟨#[]⟩, .string ⟨#[]⟩, .string ⟨#[]⟩, .string ⟨#[]⟩, .string ⟨#[]⟩, .string ⟨#[]⟩, .string ⟨#[]⟩, .string ⟨#[]⟩, .string ⟨#[]⟩] 9)) b41; have p42 := heap_past (o' := (.cells #[.string ⟨#[]⟩, .string ⟨#[]⟩, .string ⟨#[]⟩, .string ⟨#[]⟩, .string ⟨#[]⟩, .string ⟨#[]⟩, .string ⟨#[]⟩, .string ⟨#[]⟩, .string ⟨#[]⟩] 9)) b42; have q41 := past2 ((hb5.block _ (lt_of_heap p41)).trans p41) #[.int .i64 0, .int .i64 0] #[.int .i64 0, .int .i64 0] #[.int .i64 0, .int .i64 0] #[.int .i64 3, .int .i64 (-1)] 35 79; have q42 := past2 ((hb5.block _ (lt_of_heap p42)).trans p42) #[.int .i64 0, .int .i64 0] #[.int .i64 0, .int .i64 0] #[.int .i64 0, .int .i64 0] #[.int .i64 3, .int .i64 (-1)] 35 79; obtain ⟨a5, a51⟩ := two_blocks w5 #[.int .i64 0, .int .i64 0] #[.int .i64 0, .int .i64 0] 35 79; obtain ⟨b5, b51, b52⟩ := rows_set (c := #[.int .i64 0, .int .i64 0]) (d := #[.int .i64 3, .int .i64 (-1)]) a5 a51)
    | (go_at_call 70; (with_reducible refine (times_bad2 _ _ (last2 _ _ _ _ _ _ _ _)).mono ?_); rintro e w6 ⟨rfl, hb6⟩; have xq41 := heap_past (o' := (.cells #[.string ⟨#[77, 50]⟩, .string ⟨#[120]⟩] 9)) q41; have r41 := past2 ((hb6.block _ (lt_of_heap xq41)).trans xq41) #[.int .i64 0, .int .i64 0] #[.int .i64 0, .int .i64 0] #[.int .i64 0, .int .i64 0] #[.int .i64 6, .int .i64 1] 35 79; have xq42 := heap_past (o' := (.cells #[.string ⟨#[77, 50]⟩, .string ⟨#[120]⟩] 9)) q42; have r42 := past2 ((hb6.block _ (lt_of_heap xq42)).trans xq42) #[.int .i64 0, .int .i64 0] #[.int .i64 0, .int .i64 0] #[.int .i64 0, .int .i64 0] #[.int .i64 6, .int .i64 1] 35 79; have xb52 := heap_past (o' := (.cells #[.string ⟨#[77, 50]⟩, .string ⟨#[120]⟩] 9)) b52; have r52 := past2 ((hb6.block _ (lt_of_heap xb52)).trans xb52) #[.int .i64 0, .int .i64 0] #[.int .i64 0, .int .i64 0] #[.int .i64 0, .int .i64 0] #[.int .i64 6, .int .i64 1] 35 79; obtain ⟨a6, a61⟩ := two_blocks w6 #[.int .i64 0, .int .i64 0] #[.int .i64 0, .int .i64 0] 35 79; obtain ⟨b6, b61, b62⟩ := rows_set (c := #[.int .i64 0, .int .i64 0]) (d := #[.int .i64 6, .int .i64 1]) a6 a61)
    | (go_at_call 34; (with_reducible refine (mean_one _).mono ?_); rintro e w7 ⟨rfl, hb7⟩; have m41_7 := (hb7.block _ (lt_of_heap r41)).trans r41; have m42_7 := (hb7.block _ (lt_of_heap r42)).trans r42; have m52_7 := (hb7.block _ (lt_of_heap r52)).trans r52; have m62_7 := (hb7.block _ (lt_of_heap b62)).trans b62)
    | (go_at_call 34; (with_reducible refine (mean_two _).mono ?_); rintro e w8 ⟨rfl, hb8⟩; have m41_8 := (hb8.block _ (lt_of_heap m41_7)).trans m41_7; have m42_8 := (hb8.block _ (lt_of_heap m42_7)).trans m42_7; have m52_8 := (hb8.block _ (lt_of_heap m52_7)).trans m52_7; have m62_8 := (hb8.block _ (lt_of_heap m62_7)).trans m62_7)
    | (go_at_call 34; (with_reducible refine (mean_three _).mono ?_); rintro e w9 ⟨rfl, hb9⟩; have m41_9 := (hb9.block _ (lt_of_heap m41_8)).trans m41_8; have m42_9 := (hb9.block _ (lt_of_heap m42_8)).trans m42_8; have m52_9 := (hb9.block _ (lt_of_heap m52_8)).trans m52_8; have m62_9 := (hb9.block _ (lt_of_heap m62_8)).trans m62_8; obtain ⟨u0, u1⟩ := cells_two m52_9; obtain ⟨v0, v1⟩ := cells_two m62_9)
    | (go_at_call 48; (with_reducible refine (awake12 _).mono ?_); rintro e w10 ⟨rfl, hb10⟩; have m41_10 := (hb10.block _ (lt_of_heap m41_9)).trans m41_9; have m42_10 := (hb10.block _ (lt_of_heap m42_9)).trans m42_9; obtain ⟨y0, y1⟩ := cells_two m41_10; obtain ⟨z0, z1⟩ := cells_two m42_10)
    | (go_at_call 52; (with_reducible refine (same_turn 0 1 _).mono ?_); rintro e w11 ⟨rfl, hb11⟩; have m42_11 := (hb11.block _ (lt_of_heap m42_10)).trans m42_10; obtain ⟨s0, s1⟩ := cells_two m42_11)
    | ((with_reducible apply wpList_store_blk); (with_reducible rfl); (with_reducible rfl); rfl; assumption; rfl; kernel_rfl; rfl; kernel_rfl))
  go_ret
  refine ⟨rfl, ?_⟩
  have hg4 := (((Grew.of hb1).step hb2).step hb3).step hb4
  have hs4 := hg4.2
  have hg5 : Grew w.heap.size w w5 := Grew.step (by repeat (first | exact Grew.refl _ | assumption | refine Grew.alloc ?_ _ | refine Grew.setRow ?_ (by first | assumption | (simp; done) | (simp; omega) | omega) _)) hb5
  have hs5 := hg5.2
  have hg6 : Grew w.heap.size w w6 := Grew.step (by repeat (first | exact Grew.refl _ | assumption | refine Grew.alloc ?_ _ | refine Grew.setRow ?_ (by first | assumption | (simp; done) | (simp; omega) | omega) _)) hb6
  have hs6 := hg6.2
  exact Grew.below (by repeat (first | exact Grew.refl _ | assumption | refine Grew.alloc ?_ _ | refine Grew.drewN ?_ _ | refine Grew.drew ?_ | refine Grew.setRow ?_ (by first | assumption | (simp; done) | (simp; omega) | omega) _ | refine Grew.setCell ?_ (by first | assumption | (simp; done) | (simp; omega) | omega) _ | refine Grew.step ?_ (by assumption)))
end Go.Proofs.Ytklhdpkofpkmjaa
