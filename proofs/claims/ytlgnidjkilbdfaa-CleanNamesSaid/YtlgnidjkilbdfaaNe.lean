/- Chapter 20: CleanNames, the walk. -/
import Derived.Test.YtlgnidjkilbdfaaNc
namespace Go.Proofs.Ytlgnidjkilbdfaa
open Go.RowKit Ieee
set_option linter.unusedVariables false
set_option maxRecDepth 100000
set_option maxHeartbeats 6400000 in
theorem names_walk (w : World) : Calls Try.prog 15 #[] w fun e w' => e = .returned (.bool true) ∧ Below w.heap.size w w' := by
  have HN := hide_ nan_any
  have HI := hide_ inf_any
  have HL := hide_ lives_any
  have H61a := hide_ c61a
  have H61b := hide_ c61b
  have H61c := hide_ c61c
  have H48a := hide_ c48a
  have H48b := hide_ c48b
  have H50a := hide_ c50a
  have H50b := hide_ c50b
  have H50c := hide_ c50c
  have H50d := hide_ c50d
  have H45a := hide_ c45a
  have H45b := hide_ c45b
  have H57a := hide_ (fun (W : World) (p : Option Addr) (c : Nat) (h : TL W p SP) => nSp (W := W) (p := p) (c := c) h (by decide) (by decide) (by decide) sp5)
  have H57b := hide_ (fun W p c h => nSp (W := W) (p := p) (c := c) h (by decide) (by decide) (by decide) sp3)
  have H57c := hide_ (fun W p c h => nSp (W := W) (p := p) (c := c) h (by decide) (by decide) (by decide) sp8)
  have H57d := hide_ (fun W p c => nBad (W := W) (p := p) (c := c) (by decide) spn (by decide))
  have H57e := hide_ (fun W p c => nBad (W := W) (p := p) (c := c) (by decide) spm (by decide))
  have H57f := hide_ (fun W p c => nBad (W := W) (p := p) (c := c) (by decide) spz (by decide))
  have H23a : Hid (∀ (w : World) (g b : Nat) (v : Value), w.heap.size = g → w.ownsRow b 3 1 v ([0, 2, 4] : List Int).length (([0, 2, 4] : List Int).map iv) → Calls Try.prog 23 #[v, .slice (some ⟨g, 0, none⟩) 3 3] (w.alloc (.cells #[.int .i64 0, .int .i64 2, .int .i64 4] 3)) fun e w' => e = .returned (.bool true) ∧ Below w.heap.size w w') := hide_ (fun w g b v hg h => c23 [0, 2, 4] (by decide) #[.int .i64 0, .int .i64 2, .int .i64 4] rfl w g b 3 v hg h)
  have H23b : Hid (∀ (w : World) (g b : Nat) (v : Value), w.heap.size = g → w.ownsRow b 3 1 v ([2] : List Int).length (([2] : List Int).map iv) → Calls Try.prog 23 #[v, .slice (some ⟨g, 0, none⟩) 1 1] (w.alloc (.cells #[.int .i64 2] 3)) fun e w' => e = .returned (.bool true) ∧ Below w.heap.size w w') := hide_ (fun w g b v hg h => c23 [2] (by decide) #[.int .i64 2] rfl w g b 1 v hg h)
  have H47a := hide_ c47a
  have H47b := hide_ (fun W p c h => nFS (W := W) (p := p) (c := c) h)
  have H65a := hide_ c65a
  have H65b := hide_ c65b
  have HSP := hide_ (fun (w : World) => TL.lit w SP #[.int .i64 0, .float .f64 4607182418800017408, .int .i64 0, .float .f64 4607182418800017408, .int .i64 0, .float .f64 4621256167635550208, .int .i64 0, .float .f64 4607182418800017408, .int .i64 0, .float .f64 4607182418800017408] rfl (by decide))
  obtain ⟨cs17, hmk⟩ := make17
  have hq1 : (FloatKind.f64.format.order 4612811918334230528 4612811918334230528 == some .eq) = true := by decide +kernel
  have hq2 : (FloatKind.f64.format.order 4613937818241073152 4613937818241073152 == some .eq) = true := by decide +kernel
  have hq3 : (FloatKind.f64.format.order 0 0 == some .eq) = true := by decide +kernel
  have hq4 : (FloatKind.f64.format.order 9214871658872686752 9214871658872686752 == some .eq) = true := by decide +kernel
  go_enter Try.func15, Try.ntmps15
  go_wp2_with (first
    | (go_at_call 41; go_must ((with_reducible refine (HN.out _).mono ?_); rintro e w0 ⟨rfl, rfl⟩))
    | (go_at_call 42; go_must ((with_reducible refine (HI.out _).mono ?_); rintro e w0 ⟨rfl, rfl⟩))
    | (go_at_call 61; (with_reducible refine (H61a.out _ _ _ _ _ (by simp) (by simp) (by simp)).mono ?_); go_must (
        rintro e w1 ⟨⟨v, w1', rfl, rfl, p1, c1, rfl, F1⟩, hb1⟩
        have hg1 : Grew w.heap.size w w1 := ⟨hb1, hb1.size⟩
        clear hb1))
    | (go_at_call 48; (with_reducible refine (H48a.out _ _ _ _ _ (by simp) (F1.alloc _)).mono ?_); go_must (
        rintro e w2 ⟨rfl, hb2⟩
        have hA2 := Grew.of hb2
        clear F1 hb2))
    | (go_at_call 50; (with_reducible refine (H50a.out _ _ _ (by simp)).mono ?_); go_must (rintro e w3 ⟨rfl, hb3⟩; have hA3 := hA2.step hb3; clear hb3 hA2))
    | (go_at_call 50; (with_reducible refine (H50b.out _ _ _ (by simp)).mono ?_); go_must (rintro e w4 ⟨rfl, hb4⟩; have hA4 := hA3.step hb4; clear hb4 hA3))
    | (go_at_call 50; (with_reducible refine (H50c.out _).mono ?_); go_must (rintro e w5 ⟨rfl, hb5⟩; have hA5 := hA4.step hb5; clear hb5 hA4))
    | (go_at_call 50; (with_reducible refine (H50d.out _ _ _ (by simp)).mono ?_); go_must (rintro e w6 ⟨rfl, hb6⟩; have hA6 := hA5.step hb6; clear hb6 hA5))
    | (go_at_call 45; (with_reducible refine (H45a.out _ _ _ (by simp)).mono ?_); go_must (rintro e w7 ⟨rfl, hb7⟩; have hA7 := hA6.step hb7; clear hb7 hA6))
    | (go_at_call 45; (with_reducible refine (H45b.out _ _ _ (by simp)).mono ?_); go_must (rintro e w8 ⟨rfl, hb8⟩; have hA8 := hA7.step hb8; clear hb8 hA7))
    | (go_at_call 57; (with_reducible refine (H57a.out _ _ _ (HSP.out _)).mono ?_); go_must (
        rintro e w9 ⟨⟨v9, rfl, ho9⟩, hb9⟩
        have T9 := (HSP.out w8).below hb9
        have hA9 := (hA8.alloc _).step hb9
        clear hb9 hA8))
    | (go_at_call 57; (with_reducible refine (H57b.out _ _ _ T9).mono ?_); go_must (
        rintro e w10 ⟨⟨v10, rfl, ho10⟩, hb10⟩
        have T10 := T9.below hb10
        have hA10 := hA9.step hb10
        have ho9 := own_below ho9 hb10
        clear hb10 hA9 T9))
    | (go_at_call 57; (with_reducible refine (H57c.out _ _ _ T10).mono ?_); go_must (
        rintro e w11 ⟨⟨v11, rfl, ho11⟩, hb11⟩
        obtain ⟨p11, c11, rfl⟩ := row_slice ho11
        have T11 := T10.below hb11
        have hA11 := hA10.step hb11
        have ho9 := own_below ho9 hb11
        have ho10 := own_below ho10 hb11
        clear hb11 hA10 T10 ho11))
    | (go_at_call 57; (with_reducible refine (H57d.out _ _ _).mono ?_); go_must (
        rintro e w12 ⟨rfl, hb12⟩
        have T12 := T11.below hb12
        have hA12 := hA11.step hb12
        have ho9 := own_below ho9 hb12
        have ho10 := own_below ho10 hb12
        clear hb12 hA11 T11))
    | (go_at_call 57; (with_reducible refine (H57e.out _ _ _).mono ?_); go_must (
        rintro e w13 ⟨rfl, hb13⟩
        have T13 := T12.below hb13
        have hA13 := hA12.step hb13
        have ho9 := own_below ho9 hb13
        have ho10 := own_below ho10 hb13
        clear hb13 hA12 T12))
    | (go_at_call 57; (with_reducible refine (H57f.out _ _ _).mono ?_); go_must (
        rintro e w14 ⟨rfl, hb14⟩
        have T14 := T13.below hb14
        have hA14 := hA13.step hb14
        have ho9 := own_below ho9 hb14
        have ho10 := own_below ho10 hb14
        clear hb14 hA13 T13))
    | (go_at_call 23; (with_reducible refine (H23a.out _ _ _ _ (by simp) ho10).mono ?_); go_must (
        rintro e w15 ⟨rfl, hb15⟩
        have T15 := T14.below hb15
        have hA15 := hA14.step hb15
        have ho9 := own_below ho9 hb15
        clear hb15 hA14 T14 ho10))
    | (go_at_call 23; (with_reducible refine (H23b.out _ _ _ _ (by simp) ho9).mono ?_); go_must (
        rintro e w16 ⟨rfl, hb16⟩
        have T16 := T15.below hb16
        have hA16 := hA15.step hb16
        clear hb16 hA15 T15 ho9))
    | (go_at_call 47; (with_reducible refine (H47a.out _ _ _ (by simp)).mono ?_); go_must (
        rintro e w17 ⟨⟨p17, c17, rfl, F17⟩, hb17⟩
        have T17 := T16.below hb17
        have hA17 := hA16.step hb17
        clear hb17 hA16 T16))
    | (go_at_call 47; (with_reducible refine (H47b.out _ _ _ T17).mono ?_); go_must (
        rintro e w18 ⟨rfl, hb18⟩
        have T18 := T17.below hb18
        have F18 := F17.below hb18
        have hA18 := hA17.step hb18
        clear hb18 hA17 T17 F17))
    | (go_at_call 65; (with_reducible refine (H65a.out _ _ _ _ _ (by simp)).mono ?_); go_must (
        rintro e w19 ⟨rfl, hb19⟩
        have T19 := T18.below hb19
        have F19 := F18.below hb19
        have hA19 := hA18.step hb19
        clear hb19 hA18 T18 F18))
    | (go_at_call 65; (with_reducible refine (H65b.out _ _ _ _ _ (by simp) T19).mono ?_); go_must (
        rintro e w20 ⟨⟨p20, c20, rfl⟩, hb20⟩
        have F20 := F19.below hb20
        have hA20 := hA19.step hb20
        clear hb20 hA19 T19 F19))
    | (go_at_call 48; (with_reducible refine (H48b.out _ _ _ _ _ (by simp) F20).mono ?_); go_must (
        rintro e w21 ⟨rfl, hb21⟩
        have hA21 := hA20.step hb21
        clear hb21 hA20 F20))
    | (go_at_call 61; (with_reducible refine (H61c.out _ _ _).mono ?_); go_must (
        rintro e w22 ⟨rfl, hb22⟩
        have hA22 := (hA21.alloc _).step hb22
        have k22 := (hA22.below.block w1.heap.size (by simp)).trans (heap_alloc_last w1 (.cells #[.int .i64 0, .int .i64 0] 34))
        have hg22 : Grew w.heap.size w w22 := (hg1.alloc (.cells #[.int .i64 0, .int .i64 0] 34)).step hA22.below
        clear hb22 hA21))
    | (go_at_call 61; (with_reducible refine (H61b.out _ _ _ _ (by simp [World.setRow]) (by simp [World.setRow])).mono ?_); go_must (
        rintro e w23 ⟨⟨v23, rfl⟩, hb23⟩
        have k23 := (hb23.block w1.heap.size (lt_of_heap (setRow_heap k22))).trans (setRow_heap k22)
        have hg23 := (hg22.setRow hg1.2 #[.int .i64 3, .int .i64 (-1)]).step hb23))
    | (go_at_call 43; (with_reducible refine (HL.out _).mono ?_); go_must (
        rintro e w24 ⟨rfl, hb24⟩
        have k24 := (hb24.block w1.heap.size (lt_of_heap (heap_past k23))).trans (heap_past (o' := .cells #[.int .i64 2, .int .i64 1] 34) k23)
        have hg24 := (hg23.alloc (.cells #[.int .i64 2, .int .i64 1] 34)).step hb24
        obtain ⟨a0, a1⟩ := cells_two k24
        obtain ⟨b0, b1⟩ := cells_two (blk_below hb24)))
    | ((with_reducible apply wpList_store_blk); (with_reducible rfl); (with_reducible rfl); rfl; assumption; rfl; kernel_rfl; rfl; kernel_rfl))
  go_ret
  exact ⟨rfl, hg24.below⟩
end Go.Proofs.Ytlgnidjkilbdfaa
