/- awake. -/
import Derived.Test.YtcibbnphkpaifaaTb
namespace Go.Proofs.Ytcibbnphkpaifaa
open Go.RowKit
set_option linter.unusedVariables false
set_option maxRecDepth 100000
theorem two_rows (w3 : World) (A : Array Value) : ((((w3.alloc (.cells #[.bool false, .slice none 0 0, .slice none 0 0] 32)).alloc (.cells #[.int .i64 0, .int .i64 0] 27)).setRow w3.heap.size A).setRow (w3.heap.size + 1) #[.int .i64 0, .int .i64 0]).heap[w3.heap.size]? = some (.cells A 32) ∧ ((((w3.alloc (.cells #[.bool false, .slice none 0 0, .slice none 0 0] 32)).alloc (.cells #[.int .i64 0, .int .i64 0] 27)).setRow w3.heap.size A).setRow (w3.heap.size + 1) #[.int .i64 0, .int .i64 0]).heap[w3.heap.size + 1]? = some (.cells #[.int .i64 0, .int .i64 0] 27) ∧ Below w3.heap.size w3 ((((w3.alloc (.cells #[.bool false, .slice none 0 0, .slice none 0 0] 32)).alloc (.cells #[.int .i64 0, .int .i64 0] 27)).setRow w3.heap.size A).setRow (w3.heap.size + 1) #[.int .i64 0, .int .i64 0]) := by
  have hr11 := heap_past (o' := (.cells #[.int .i64 0, .int .i64 0] 27)) (heap_alloc_last w3 (.cells #[.bool false, .slice none 0 0, .slice none 0 0] 32))
  have hr12 := row_other (cs := A) (heap_at1 w3 (.cells #[.bool false, .slice none 0 0, .slice none 0 0] 32) (.cells #[.int .i64 0, .int .i64 0] 27)) (show w3.heap.size + 1 ≠ w3.heap.size by omega)
  exact ⟨row_other (setRow_heap _ _ _ _ _ _ hr11) (by omega), setRow_heap _ _ _ _ _ _ hr12, below_setRow (below_setRow ((below_alloc _ _).alloc (by simp) _) (Nat.le_refl _) _) (by omega) _⟩
set_option maxHeartbeats 25600000 in
theorem awake_any (w : World) : Calls Try.prog 11 #[] w fun e w' => e = .returned (.bool true) ∧ Below w.heap.size w w' := by
  have HEX := hide_ (fun W => example_any W)
  have HB3 := hide_ (fun p W (h : WSl W p exL) => Between_ok p 3 3 3 exL (5 / 8) W rfl h (by decide) ex_snd ex_at3)
  have HB7 := hide_ (fun p W (h : WSl W p exL) => Between_ok p 3 3 7 exL 4 W rfl h (by decide) ex_snd ex_at7)
  go_enter Try.func11, Try.ntmps11
  go_upto_region 2 with (first
    | (go_at_call 27; go_must ((with_reducible refine (HEX.out _).mono ?_); rintro e w1 ⟨⟨g1, rfl, hx1⟩, hb1⟩))
    | (go_at_call 15; go_must (
        (with_reducible refine (HB3.out _ _ hx1).mono ?_)
        rintro e w2 ⟨⟨s1, p1, n1, c1, q1, m1, d1, rfl, ho1, hf1⟩, hb2⟩
        have hr11 := heap_past (o' := (.cells #[.int .i64 0, .int .i64 0] 27)) (heap_alloc_last w2 (.cells #[.bool false, .slice none 0 0, .slice none 0 0] 32))
        have hr12 := row_other (cs := #[.bool s1, .slice p1 n1 c1, .slice q1 m1 d1]) (heap_at1 w2 (.cells #[.bool false, .slice none 0 0, .slice none 0 0] 32) (.cells #[.int .i64 0, .int .i64 0] 27)) (show w2.heap.size + 1 ≠ w2.heap.size by omega)))
    | ((with_reducible apply wpList_store_new); (with_reducible rfl); (with_reducible rfl); rfl; rfl; kernel_rfl; rfl; kernel_rfl) | ((with_reducible apply wpList_store_blk); (with_reducible rfl); (with_reducible rfl); rfl; assumption; rfl; kernel_rfl; rfl; kernel_rfl))
  obtain ⟨ha1, ha2, hba⟩ := two_rows w2 #[.bool s1, .slice p1 n1 c1, .slice q1 m1 d1]
  have HB2 := hide_ (hb1.trans (hb2.mono hb1.size))
  have hA := HB2.out.trans (hba.mono HB2.out.size)
  have hv1 := (ho1.below hba).rv hf1
  clear hr11 hr12 hb1 hb2 hx1 hba
  generalize ((((w2.alloc (.cells #[.bool false, .slice none 0 0, .slice none 0 0] 32)).alloc (.cells #[.int .i64 0, .int .i64 0] 27)).setRow w2.heap.size #[.bool s1, .slice p1 n1 c1, .slice q1 m1 d1]).setRow (w2.heap.size + 1) #[.int .i64 0, .int .i64 0]) = wa at *
  generalize w2.heap.size = B1 at *
  go_upto_region 3 with (first
    | (go_at_call 27; go_must ((with_reducible refine (HEX.out _).mono ?_); rintro e w3 ⟨⟨g3, rfl, hx3⟩, hb3⟩))
    | (go_at_call 15; go_must (
        (with_reducible refine (HB7.out _ _ hx3).mono ?_)
        rintro e w4 ⟨⟨s2, p2, n2, c2, q2, m2, d2, rfl, ho2, hf2⟩, hb4⟩
        have hr11 := heap_past (o' := (.cells #[.int .i64 0, .int .i64 0] 27)) (heap_alloc_last w4 (.cells #[.bool false, .slice none 0 0, .slice none 0 0] 32))
        have hr12 := row_other (cs := #[.bool s2, .slice p2 n2 c2, .slice q2 m2 d2]) (heap_at1 w4 (.cells #[.bool false, .slice none 0 0, .slice none 0 0] 32) (.cells #[.int .i64 0, .int .i64 0] 27)) (show w4.heap.size + 1 ≠ w4.heap.size by omega)))
    | ((with_reducible apply wpList_store_new); (with_reducible rfl); (with_reducible rfl); rfl; rfl; kernel_rfl; rfl; kernel_rfl) | ((with_reducible apply wpList_store_blk); (with_reducible rfl); (with_reducible rfl); rfl; assumption; rfl; kernel_rfl; rfl; kernel_rfl))
  obtain ⟨hc1, hc2, hbc⟩ := two_rows w4 #[.bool s2, .slice p2 n2 c2, .slice q2 m2 d2]
  have HB4 := hide_ (hb3.trans (hb4.mono hb3.size))
  have hC := HB4.out.trans (hbc.mono HB4.out.size)
  have hv2 := (ho2.below hbc).rv hf2
  have hcA := hA.trans (hC.mono hA.size)
  have hd1 := (hC.block _ (lt_of_heap ha1)).trans ha1
  have hd2 := (hC.block _ (lt_of_heap ha2)).trans ha2
  have hv1' := hv1.below hC
  clear hr11 hr12 hb3 hb4 hx3 hbc ha1 ha2 hv1 hA hC ho1 ho2
  generalize ((((w4.alloc (.cells #[.bool false, .slice none 0 0, .slice none 0 0] 32)).alloc (.cells #[.int .i64 0, .int .i64 0] 27)).setRow w4.heap.size #[.bool s2, .slice p2 n2 c2, .slice q2 m2 d2]).setRow (w4.heap.size + 1) #[.int .i64 0, .int .i64 0]) = wc at *
  generalize w4.heap.size = B2 at *
  have HS2 := hide_ (fun W => small_form 2 1 2 (by decide +kernel) W (by decide) (by decide) (by decide) (by decide) (by decide))
  have HS0 := hide_ (fun W => small_form 0 1 0 (by decide +kernel) W (by decide) (by decide) (by decide) (by decide) (by decide))
  have HS1 := hide_ (fun W => small_form 1 1 1 (by decide +kernel) W (by decide) (by decide) (by decide) (by decide) (by decide))
  have HSH := hide_ (fun W => small_form 1 2 (1 / 2) (by decide +kernel) W (by decide) (by decide) (by decide) (by decide) (by decide))
  have HDI := hide_ (fun k s1 p1 n1 c1 q1 m1 d1 s2 p2 n2 c2 q2 m2 d2 W => difference_form k s1 s2 p1 q1 p2 q2 n1 c1 m1 d1 n2 c2 m2 d2 W)
  go_upto_region 4 with (first
    | (go_at_call 27; go_must ((with_reducible refine (HEX.out _).mono ?_); rintro e w5 ⟨⟨g5, rfl, hx5⟩, hb5⟩))
    | (go_at_call 21; (with_reducible refine (HS2.out _).mono ?_); rintro e w6 ⟨⟨s3, p3, n3, c3, q3, m3, d3, rfl, ho3, hf3⟩, hb6⟩)
    | (go_at_call 21; (with_reducible refine (HS0.out _).mono ?_); rintro e w7 ⟨⟨s4, p4, n4, c4, q4, m4, d4, rfl, ho4, hf4⟩, hb7⟩; have tok8 : True := trivial)
    | (go_at_call 20; have _t := tok8; (with_reducible refine (HDI.out 1 _ _ _ _ _ _ _ _ _ _ _ _ _ _ _).mono ?_); rintro e w8 ⟨rfl, hb8⟩; clear tok8)
    | (go_at_call 21; (with_reducible refine (HS1.out _).mono ?_); rintro e w9 ⟨⟨s5, p5, n5, c5, q5, m5, d5, rfl, ho5, hf5⟩, hb9⟩)
    | (go_at_call 21; (with_reducible refine (HSH.out _).mono ?_); rintro e w10 ⟨⟨s6, p6, n6, c6, q6, m6, d6, rfl, ho6, hf6⟩, hb10⟩)
    | (go_at_call 20; go_must ((with_reducible refine (HDI.out (-1) _ _ _ _ _ _ _ _ _ _ _ _ _ _ _).mono ?_); rintro e w11 ⟨rfl, hb11⟩))
    | (go_at_call 22; go_must (
        have k10 := hb10.trans (hb11.mono hb10.size)
        have k9 := hb9.trans (k10.mono hb9.size)
        have k8 := hb8.trans (k9.mono hb8.size)
        have k7 := hb7.trans (k8.mono hb7.size)
        have k6 := hb6.trans (k7.mono hb6.size)
        have HAP := hide_ (apply_ex _ _ _ _ _ _ _ _ _ _ _ _ _ _ _ _ _ _ _ _ _ _ _ _ _ _ _ _ _ w11 (hx5.below k6) ((ho3.rv hf3).below k7) ((ho4.rv hf4).below k8) ((ho5.rv hf5).below k10) ((ho6.rv hf6).below hb11))
        (with_reducible refine (HAP.out).mono ?_)
        rintro e w12 ⟨⟨v, Z, rfl, hO, hZ⟩, hb12⟩
        have HB12 := hide_ ((hb5.trans (k6.mono hb5.size)).trans (hb12.mono (hb5.trans (k6.mono hb5.size)).size))))
    | ((with_reducible apply wpList_store_new); (with_reducible rfl); (with_reducible rfl); rfl; rfl; kernel_rfl; rfl; kernel_rfl) | ((with_reducible apply wpList_store_blk); (with_reducible rfl); (with_reducible rfl); rfl; assumption; rfl; kernel_rfl; rfl; kernel_rfl))
  have hB := HB12.out.alloc HB12.out.size (.cells #[.int .i64 0, .int .i64 0] 27)
  obtain ⟨g, cv, rfl, hg, s7, p7, n7, c7, q7, m7, d7, s8, p8, n8, c8, q8, m8, d8, s9, p9, n9, c9, q9, m9, d9, ⟨l0, l3, l4, l5⟩, ⟨l6, l7, l8, l9, l10, l11⟩, ⟨l12, l15, l16, l17⟩, v7, v8, v9⟩ := ex_cells (hO.below (below_alloc _ (.cells #[.int .i64 0, .int .i64 0] 27))) hZ
  have hf6' := heap_alloc_last w12 (.cells #[.int .i64 0, .int .i64 0] 27)
  have he1 := (hB.block _ (lt_of_heap hd1)).trans hd1
  have he2 := (hB.block _ (lt_of_heap hd2)).trans hd2
  have he3 := (hB.block _ (lt_of_heap hc1)).trans hc1
  have he4 := (hB.block _ (lt_of_heap hc2)).trans hc2
  have hve1 := hv1'.below hB
  have hve2 := hv2.below hB
  have hBw := hcA.trans (hB.mono hcA.size)
  clear hd1 hd2 hc1 hc2 hv1' hv2 hO hb5 hb6 hb7 hb8 hb9 hb10 hb11 hb12 k6 k7 k8 k9 k10 HAP hB hx5 ho3 ho4 ho5 ho6 HS2 HS0 HS1 HSH HDI HEX HB3 HB7
  generalize (w12.alloc (.cells #[.int .i64 0, .int .i64 0] 27)) = wd at *
  generalize w12.heap.size = B3 at *
  have HCL := hide_ (fun W (h : Below wd.heap.size wd W) => (⟨cells_three ((h.block _ (lt_of_heap he1)).trans he1), cells_two ((h.block _ (lt_of_heap he2)).trans he2), cells_three ((h.block _ (lt_of_heap he3)).trans he3), cells_two ((h.block _ (lt_of_heap he4)).trans he4), cells_two ((h.block _ (lt_of_heap hf6')).trans hf6')⟩ : _ ∧ _ ∧ _ ∧ _ ∧ _))
  have HS58 := hide_ (fun W => small_form 5 8 (5 / 8) (by decide +kernel) W (by decide) (by decide) (by decide) (by decide) (by decide))
  have HS41 := hide_ (fun W => small_form 4 1 4 (by decide +kernel) W (by decide) (by decide) (by decide) (by decide) (by decide))
  have HSAME := hide_ (fun va vb x W (h1 : RV W va x) (h2 : RV W vb x) => (show Calls Try.prog 28 #[va, vb] W fun e w' => e = .returned (.bool true) ∧ Below W.heap.size W w' from by have h := rsame_rat va vb x x W h1 h2; rw [decide_eq_true rfl] at h; exact h))
  have HV1 := hide_ (fun W (h : Below wd.heap.size wd W) => hve1.below h)
  have HV2 := hide_ (fun W (h : Below wd.heap.size wd W) => hve2.below h)
  have hdd : Below wd.heap.size wd wd.drew := (Below.refl _ _).drew
  obtain ⟨⟨x0, x1, x2⟩, ⟨x3, x4⟩, ⟨x5, x6, x7⟩, ⟨x8, x9⟩, x10, x11⟩ := HCL.out _ hdd
  clear he1 he2 he3 he4 hf6' hve1 hve2
  rw [show ∀ (a : Act), a.put none undef = a from fun _ => rfl]
  go_region_held3 (fun w' => (w'.cell? ⟨B1, 0, none⟩ = some (.bool s1) ∧ w'.cell? ⟨B1, 1, none⟩ = some (.slice p1 n1 c1) ∧ w'.cell? ⟨B1, 2, none⟩ = some (.slice q1 m1 d1)) ∧ (w'.cell? ⟨B1 + 1, 0, none⟩ = some (.int .i64 0) ∧ w'.cell? ⟨B1 + 1, 1, none⟩ = some (.int .i64 0)) ∧ (w'.cell? ⟨B2, 0, none⟩ = some (.bool s2) ∧ w'.cell? ⟨B2, 1, none⟩ = some (.slice p2 n2 c2) ∧ w'.cell? ⟨B2, 2, none⟩ = some (.slice q2 m2 d2)) ∧ (w'.cell? ⟨B2 + 1, 0, none⟩ = some (.int .i64 0) ∧ w'.cell? ⟨B2 + 1, 1, none⟩ = some (.int .i64 0)) ∧ (w'.cell? ⟨B3, 0, none⟩ = some (.int .i64 0) ∧ w'.cell? ⟨B3, 1, none⟩ = some (.int .i64 0)))
    (first | (exact HCL.out _ (by assumption)) | go_keep)
    ((first
      | (go_at_call 21; (with_reducible refine (HS58.out _).mono ?_); rintro e w13 ⟨⟨s13, p13, n13, c13, q13, m13, d13, rfl, ho13, hf13⟩, hb13⟩; have k13 := hdd.trans (hb13.mono hdd.size))
      | (go_at_call 28; (with_reducible refine (HSAME.out _ _ (5 / 8) w13 (HV1.out _ k13) (ho13.rv hf13)).mono ?_); rintro e w14 ⟨rfl, hb14⟩; have k14 := k13.trans (hb14.mono k13.size))
      | (go_at_call 21; (with_reducible refine (HS41.out _).mono ?_); rintro e w15 ⟨⟨s15, p15, n15, c15, q15, m15, d15, rfl, ho15, hf15⟩, hb15⟩; have k15 := k14.trans (hb15.mono k14.size))
      | (go_at_call 28; go_must ((with_reducible refine (HSAME.out _ _ 4 w15 (HV2.out _ k15) (ho15.rv hf15)).mono ?_); rintro e w16 ⟨rfl, hb16⟩; have k16 := k15.trans (hb16.mono k15.size)))))
  go_wp2
  have HLW := hide_ (fun W (h : Below wd.heap.size wd W) => (⟨⟨(h.cell hg).trans l0, (h.cell hg).trans l3, (h.cell hg).trans l4, (h.cell hg).trans l5⟩, ⟨(h.cell hg).trans l6, (h.cell hg).trans l7, (h.cell hg).trans l8, (h.cell hg).trans l9, (h.cell hg).trans l10, (h.cell hg).trans l11⟩, (h.cell hg).trans l12, (h.cell hg).trans l15, (h.cell hg).trans l16, (h.cell hg).trans l17⟩ : (_ ∧ _ ∧ _ ∧ _) ∧ (_ ∧ _ ∧ _ ∧ _ ∧ _ ∧ _) ∧ _ ∧ _ ∧ _ ∧ _))
  have HS12 := hide_ (fun W => small_form 1 2 (1 / 2) (by decide +kernel) W (by decide) (by decide) (by decide) (by decide) (by decide))
  have HS81 := hide_ (fun W => small_form 8 1 8 (by decide +kernel) W (by decide) (by decide) (by decide) (by decide) (by decide))
  have HS32 := hide_ (fun W => small_form 3 2 (3 / 2) (by decide +kernel) W (by decide) (by decide) (by decide) (by decide) (by decide))
  have HV7 := hide_ (fun W (h : Below wd.heap.size wd W) => v7.below h)
  have HV8 := hide_ (fun W (h : Below wd.heap.size wd W) => v8.below h)
  have HV9 := hide_ (fun W (h : Below wd.heap.size wd W) => v9.below h)
  have kd : Below wd.heap.size wd w16.drew := k16.drew
  obtain ⟨⟨y0, y3, y4, y5⟩, ⟨y6, y7, y8, y9, y10, y11⟩, y12, y15, y16, y17⟩ := HLW.out _ kd
  clear l0 l3 l4 l5 l6 l7 l8 l9 l10 l11 l12 l15 l16 l17 v7 v8 v9 hb13 hb14 hb15 hb16 ho13 ho15 x0 x1 x2 x3 x4 x5 x6 x7 x8 x9 x10 x11 HCL HS58 HS41
  go_region_held3 (fun w' => (w'.cell? ⟨g, 0, none⟩ = some (.int .i64 1) ∧ w'.cell? ⟨g, 3, none⟩ = some (.bool s7) ∧ w'.cell? ⟨g, 4, none⟩ = some (.slice p7 n7 c7) ∧ w'.cell? ⟨g, 5, none⟩ = some (.slice q7 m7 d7)) ∧ (w'.cell? ⟨g, 6, none⟩ = some (.int .i64 7) ∧ w'.cell? ⟨g, 7, none⟩ = some (.int .i64 8) ∧ w'.cell? ⟨g, 8, none⟩ = some (.bool true) ∧ w'.cell? ⟨g, 9, none⟩ = some (.bool s8) ∧ w'.cell? ⟨g, 10, none⟩ = some (.slice p8 n8 c8) ∧ w'.cell? ⟨g, 11, none⟩ = some (.slice q8 m8 d8)) ∧ (w'.cell? ⟨g, 12, none⟩ = some (.int .i64 11) ∧ w'.cell? ⟨g, 15, none⟩ = some (.bool s9) ∧ w'.cell? ⟨g, 16, none⟩ = some (.slice p9 n9 c9) ∧ w'.cell? ⟨g, 17, none⟩ = some (.slice q9 m9 d9)))
    (first | (exact HLW.out _ (by assumption)) | go_keep)
    ((first
      | (go_at_call 21; (with_reducible refine (HS12.out _).mono ?_); rintro e w17 ⟨⟨s17, p17, n17, c17, q17, m17, d17, rfl, ho17, hf17⟩, hb17⟩; have k17 := kd.trans (hb17.mono kd.size))
      | (go_at_call 28; (with_reducible refine (HSAME.out _ _ (1 / 2) w17 (HV7.out _ k17) (ho17.rv hf17)).mono ?_); rintro e w18 ⟨rfl, hb18⟩; have k18 := k17.trans (hb18.mono k17.size))
      | (go_at_call 21; (with_reducible refine (HS81.out _).mono ?_); rintro e w19 ⟨⟨s19, p19, n19, c19, q19, m19, d19, rfl, ho19, hf19⟩, hb19⟩; have k19 := k18.trans (hb19.mono k18.size))
      | (go_at_call 28; (with_reducible refine (HSAME.out _ _ 8 w19 (HV8.out _ k19) (ho19.rv hf19)).mono ?_); rintro e w20 ⟨rfl, hb20⟩; have k20 := k19.trans (hb20.mono k19.size))
      | (go_at_call 21; (with_reducible refine (HS32.out _).mono ?_); rintro e w21 ⟨⟨s21, p21, n21, c21, q21, m21, d21, rfl, ho21, hf21⟩, hb21⟩; have k21 := k20.trans (hb21.mono k20.size))
      | (go_at_call 28; go_must ((with_reducible refine (HSAME.out _ _ (3 / 2) w21 (HV9.out _ k21) (ho21.rv hf21)).mono ?_); rintro e w22 ⟨rfl, hb22⟩; have k22 := k21.trans (hb22.mono k21.size)))))
  go_wp2
  go_ret
  exact ⟨by simp, hBw.trans (k22.mono hBw.size)⟩
end Go.Proofs.Ytcibbnphkpaifaa
