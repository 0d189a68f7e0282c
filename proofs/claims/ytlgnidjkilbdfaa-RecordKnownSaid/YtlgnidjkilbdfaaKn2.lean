/- Chapter 19: RecordKnown, the walk. -/
import Derived.Test.YtlgnidjkilbdfaaKn
namespace Go.Proofs.Ytlgnidjkilbdfaa
open Go.RowKit
set_option linter.unusedVariables false
set_option maxRecDepth 100000
theorem sl_lit (w : World) : SL (w.alloc (.cells #[.int .i64 1, .float .f64 0, .int .i64 1, .float .f64 0] 26)) 0 (.slice (some ⟨w.heap.size, 0, none⟩) 2 2) S11 :=
  row_lit w 0 26 2 2 #[.int .i64 1, .float .f64 0, .int .i64 1, .float .f64 0] (Nat.zero_le _) rfl (by decide)
set_option maxHeartbeats 8000000 in
theorem known_walk (w : World) : Calls Try.prog 8 #[] w fun e w' => e = .returned (.bool true) ∧ Below w.heap.size w w' := by
  have H0 := hide_ new_at
  have HN := hide_ nan_any
  have HI := hide_ inf_any
  have HA := hide_ awake_any
  have c1 := kC1
  have c2 := kC2
  have tok0 : True := trivial
  have tok1 : True := trivial
  have tok2 : True := trivial
  have tok3 : True := trivial
  have tok4 : True := trivial
  have tok5 : True := trivial
  have tok6 : True := trivial
  have tok7 : True := trivial
  have tok8 : True := trivial
  have tok9 : True := trivial
  have tok10 : True := trivial
  have tok11 : True := trivial
  have tok12 : True := trivial
  have tok13 : True := trivial
  go_enter Try.func8, Try.ntmps8
  go_wp2_with (first
    | (go_at_call 27; have _t := tok0; (with_reducible refine (H0.out _).mono ?_); rintro e w1 ⟨rb, mb, rfl, r0, hrb, hmb, hb1⟩; have g0 := Grew.of hb1; clear hb1 tok0)
    | (go_at_call 41; (with_reducible refine (HN.out _).mono ?_); rintro e w1 ⟨rfl, rfl⟩)
    | (go_at_call 42; (with_reducible refine (HI.out _).mono ?_); rintro e w1 ⟨rfl, rfl⟩)
    | (go_at_call 28; have _t := tok1; go_must ((with_reducible refine (add_at 0 A1 r0 (i64s (t := 3) (by decide) (by decide)) (by decide) kE1 kL1).mono ?_); rintro e w2 ⟨rfl, r1, hb1⟩; have g1 := g0.add hb1 hmb; clear tok1 r0 g0 hb1))
    | (go_at_call 28; have _t := tok2; go_must ((with_reducible refine (add_at 0 A2 r1 (i64s (t := 1) (by decide) (by decide)) (by decide) kE2 kL2).mono ?_); rintro e w3 ⟨rfl, r2, hb2⟩; have g2 := g1.add hb2 hmb; clear tok2 r1 g1 hb2))
    | (go_at_call 28; have _t := tok3; go_must ((with_reducible refine (add_at 0 B3 r2 (i64s (t := 5) (by decide) (by decide)) (by decide) kE3 kL3).mono ?_); rintro e w4 ⟨rfl, r3, hb3⟩; have g3 := g2.add hb3 hmb; clear tok3 r2 g2 hb3))
    | (go_at_call 35; have _t := tok4; go_must ((with_reducible refine (gaps_at (a := 3) (b := 4) 0 [] r3 kA1 kG1).mono ?_); rintro e w6 ⟨v1, rfl, h1, _, hb⟩; have g4 := g3.step hb; have r4 := r3.below hb; obtain ⟨p1, c1', rfl⟩ := row_slice h1; clear r3 g3 hb tok4 h1))
    | (go_at_call 35; have _t := tok5; go_must ((with_reducible refine (gaps_at (a := 4) (b := 4) 0 [] r4 kA2 kG2).mono ?_); rintro e w7 ⟨v2, rfl, h1, _, hb⟩; have g5 := g4.step hb; have r5 := r4.below hb; obtain ⟨p2, c2', rfl⟩ := row_slice h1; clear r4 g4 hb tok5 h1))
    | (go_at_call 35; have _t := tok6; go_must ((with_reducible refine (gaps_at (a := 5) (b := 4) 2 [] r5 kA3 kG3).mono ?_); rintro e w8 ⟨v3, rfl, h1, _, hb⟩; have g6 := g5.step hb; have r6 := r5.below hb; clear r5 g5 hb tok6 h1))
    | (go_at_call 37; have _t := tok7; go_must ((with_reducible refine (at_at (t := 3) 4609434218613702656 true r6 (i64s (by decide) (by decide)) kQ1 kQ2).mono ?_); rintro e w9 ⟨rfl, hb⟩; have g7 := g6.step hb; have r7 := r6.below hb; clear r6 g6 hb tok7))
    | (go_at_call 37; have _t := tok8; go_must ((with_reducible refine (at_at (t := 5) 0 false r7 (i64s (by decide) (by decide)) kQ3 kQ4).mono ?_); rintro e w10 ⟨rfl, hb⟩; have g8 := g7.step hb; have r8 := r7.below hb; clear r7 g7 hb tok8))
    | (go_at_call 30; have _t := tok9; go_must ((with_reducible refine (take_at (t := 1) 0 B4 r8 (i64s (by decide) (by decide)) kT1 kT2).mono ?_); rintro e w11 ⟨rfl, r9, hb⟩; have g9 := g8.add hb hmb; clear r8 g8 hb tok9))
    | (go_at_call 30; have _t := tok10; go_must ((with_reducible refine (take_at (t := 1) 6 B4 r9 (i64s (by decide) (by decide)) kT3 kT4).mono ?_); rintro e w12 ⟨rfl, r10, hb⟩; have g10 := g9.add hb hmb; clear r9 g9 hb tok10))
    | (go_at_call 28; have _t := tok11; go_must ((with_reducible refine (add_at 0 B5 r10 (i64s (t := 1048576) (by decide) (by decide)) (by decide) kE5 kL5).mono ?_); rintro e w13 ⟨rfl, r11, hb⟩; have g11 := g10.add hb hmb; clear r10 g10 hb tok11))
    | (go_at_call 28; have _t := tok12; go_must ((with_reducible refine (add_at 2 B5 r11 (i64s (t := 1048577) (by decide) (by decide)) (by decide) kE6 kL6).mono ?_); rintro e w14 ⟨rfl, r12, hb⟩; have g12 := g11.add hb hmb; clear r11 g11 hb tok12))
    | (go_at_call 27; go_must ((with_reducible refine (H0.out _).mono ?_); rintro e w15 ⟨rb2, mb2, rfl, s0, hrb2, hmb2, hb⟩; have g13 := g12.step hb; have hmbB := Nat.le_trans g12.2 hmb2; clear hb tok13 r12 g12)))
  go_loopw [15] (fun i wr => ∃ k : Nat, k ≤ 4096 ∧ i = .int .i64 k ∧ Rec wr rb2 mb2 (full k) ∧ Grew w.heap.size w wr) (fun i _ => 4096 - (intOf i).toNat)
  case atStart => exact ⟨0, by omega, rfl, s0, g13⟩
  case round =>
    clear s0 g13
    obtain ⟨k, hk, rfl, hrec, hgr⟩ := hrel
    by_cases hlt : k < 4096
    · have HA1 := hide_ (add_at (b := floatOfInt .f64 (k : Int)) 0 (full (k + 1)) hrec (i64s (t := k) (by omega) (by omega)) (all_64 k hlt) (full_e hlt) (full_r hlt))
      clear hrec
      go_wp2_with (go_at_call 28; go_must ((with_reducible refine (HA1.out).mono ?_); rintro e w2 ⟨rfl, r1, hb1⟩))
      go_roundw
      case rel => exact ⟨k + 1, by omega, by go_num, r1, hgr.add hb1 hmbB⟩
      case measure => simp [intOf]; omega
    · obtain rfl : k = 4096 := by omega
      have tok1 : True := trivial
      have tok2 : True := trivial
      go_wp2_with (first
        | (go_at_call 28; have _t := tok1; go_must ((with_reducible refine (add_at 3 (full 4096) hrec (i64s (t := 4096) (by decide) (by decide)) (by decide) kE7 kL7).mono ?_); rintro e w2 ⟨rfl, s1, hb⟩; have h1 := hgr.add hb hmbB; clear tok1 hrec hgr hb))
        | (go_at_call 28; have _t := tok2; go_must ((with_reducible refine (add_at 5 (full 4096) s1 (i64s (t := 7) (by decide) (by decide)) (by decide) kE8 kL8).mono ?_); rintro e w3 ⟨rfl, s2, hb⟩; have h2 := h1.add hb hmbB; clear tok2 s1 h1 hb))
        | (go_at_call 29; go_must ((with_reducible refine (len_at 4096 s2 kO1).mono ?_); rintro e w4 ⟨rfl, hb⟩; have h3 := h2.step hb; clear s2 h2 hb))
        | (go_at_call 17; go_must ((with_reducible refine (from_at (S := S11) 5 (sl_lit w4) kF3 (by decide) kF1 kF2).mono ?_); rintro e w5 ⟨rfl, hb⟩; have h4 := (h3.alloc (.cells #[.int .i64 1, .float .f64 0, .int .i64 1, .float .f64 0] 26)).step hb; have b5 := heap_alloc_last w5 (.cells #[.int .i64 5, .int .i64 1] 34); have h5 := h4.alloc (.cells #[.int .i64 5, .int .i64 1] 34); clear hb))
        | ((with_reducible apply wpList_store_new); (with_reducible rfl); (with_reducible rfl); rfl; rfl; kernel_rfl; rfl; kernel_rfl)
        | (go_at_call 26; go_must ((with_reducible refine (HA.out _).mono ?_); rintro e w6 ⟨rfl, hb⟩; have b6 := (hb.block _ (lt_of_heap b5)).trans b5; have h6 := h5.step hb; obtain ⟨d0, d1⟩ := cells_two b6; clear hb b5 b6)))
      go_ret
      exact ⟨rfl, h6.below⟩
end Go.Proofs.Ytlgnidjkilbdfaa
