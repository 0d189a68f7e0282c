/- Chapter 20: CleanBetween, the walk. -/
import Derived.Test.YtlgnidjkilbdfaaBp
import Derived.Test.YtlgnidjkilbdfaaOpf
namespace Go.Proofs.Ytlgnidjkilbdfaa
open Go.RowKit Ieee
set_option linter.unusedVariables false
set_option maxRecDepth 100000
theorem back_snoc {L : List Nat} {k : Nat} (h : k < L.length) : L.reverse.take (k + 1) = L.reverse.take k ++ [L.getD (L.length - 1 - k) 0] := by
  rw [List.take_succ_eq_append_getElem (by simpa using h), List.getElem_reverse, List.getD_eq_getElem?_getD, List.getElem?_eq_getElem (by omega)]
  rfl
theorem neg_snoc {L : List Nat} {k : Nat} (h : k < L.length) : (L.map negF).take (k + 1) = (L.map negF).take k ++ [negF (L.getD k 0)] := by
  rw [List.take_succ_eq_append_getElem (by simpa using h), List.getElem_map, List.getD_eq_getElem?_getD, List.getElem?_eq_getElem h]
  rfl
theorem run_neg (x : Nat) (w : World) : (Op.unary .neg (.float .f64 x)).run Try.prog w = .ok (.float .f64 (negF x)) w := rfl
/-- All that the law asks, once the medians are known. -/
structure Asks (L : List Nat) (n lo hi m o : Nat) (ok : Bool) : Prop where
  nE : n = (srt L).length
  okE : ok = decide (0 < (srt L).length)
  none : ok = false → m = 0 ∧ o = 0
  low : ok = true → L.any tinyB = false → (FloatKind.f64.format.order m lo = some .gt ∨ FloatKind.f64.format.order m lo = some .eq) ∧ (FloatKind.f64.format.order m hi = some .lt ∨ FloatKind.f64.format.order m hi = some .eq)
  neg : ok = true → FloatKind.f64.format.order o (negF m) = some .eq
  self : FloatKind.f64.format.order m m = some .eq
theorem asks_of {L : List Nat} (h : W64 L) : Asks L (mmTo L L.length).n (mmTo L L.length).lo (mmTo L L.length).hi (medL (srt L)) (medL (srt (L.map negF))) (decide (0 < (srt L).length)) := by
  have hm := MInv.to h L.length (Nat.le_refl _)
  rw [List.take_length] at hm
  obtain ⟨m1, m2⟩ := med_one (srt_ok h)
  obtain ⟨o1, o2⟩ := med_one (srt_ok (w64_neg h))
  have hneg := med_neg h
  have hlen : (srt (L.map negF)).length = (srt L).length := by rw [srt_neg h]; simp
  refine ⟨by rw [hm.n, srt_len], rfl, fun h0 => ?_, fun h0 ht => ?_, fun h0 => ?_, ?_⟩
  · simp only [decide_eq_false_iff_not] at h0
    exact ⟨if_pos (by omega), if_pos (by omega)⟩
  · simp only [decide_eq_true_eq] at h0
    obtain ⟨a, b, ha, hb, h1, h2⟩ := med_between h ht h0
    have ha' : a ∈ L.filter oneB := (srt_perm L).mem_iff.1 ha
    have hb' : b ∈ L.filter oneB := (srt_perm L).mem_iff.1 hb
    obtain ⟨l1, l2⟩ := hm.mem (by rintro e; rw [e] at ha'; cases ha')
    rw [List.mem_filter] at l1 l2
    have q1 := (hm.le a ha').1
    have q2 := (hm.le b hb').2
    rw [fcmp m1 (h _ l1.1) m2 l1.2, fcmp m1 (h _ l2.1) m2 l2.2]
    constructor
    · rcases Int.lt_trichotomy (valW (mmTo L L.length).lo) (valW (medL (srt L))) with h | h | h
      · left; rw [cmp_gt h]
      · right; rw [h, cmp_eq]
      · omega
    · rcases Int.lt_trichotomy (valW (medL (srt L))) (valW (mmTo L L.length).hi) with h | h | h
      · left; rw [cmp_lt h]
      · right; rw [h, cmp_eq]
      · omega
  · rw [fcmp o1 (oneB_neg m1).2 o2 (by rw [(oneB_neg m1).1]; exact m2), hneg, val_negF m1, cmp_eq]
  · rw [fcmp m1 m1 m2 m2, cmp_eq]
set_option maxHeartbeats 3200000 in
theorem between_walk (p : Option Addr) (n c : Nat) (L : List Nat) (w : World) (hn : n = L.length) (hp : FL w p L) (hw : W64 L) :
    Calls Try.prog 9 #[.slice p n c] w fun e w' => e = .returned (.bool true) ∧ Below w.heap.size w w' := by
  subst hn
  by_cases hlen : 200 < L.length
  · have HL := hide_ lives_any
    go_enter Try.func9, Try.ntmps9
    go_wp2_with (go_at_call 43; (with_reducible refine (HL.out _).mono ?_); rintro e w1 ⟨rfl, hb1⟩)
    go_ret
    exact ⟨rfl, hb1⟩
  · have HL := hide_ lives_any
    have hl2 : L.length ≤ 200 := by omega
    have HF := hide_ (fun W (h : FL W p L) => finite_law p L.length c L W rfl h (by omega))
    have HM := hide_ (fun W (h : FL W p L) => median_any p L.length c L W rfl h hw (by omega))
    have HTi := hide_ (fun W (h : FL W p L) => tiny_law p L.length c L W rfl h (by omega))
    have HA := hide_ (asks_of hw)
    have HP := hide_ hp
    have HW := hide_ hw
    have HN := hide_ (fun k (h : k < L.length) => neg_snoc h)
    have HK := hide_ (fun k (h : k < L.length) => back_snoc h)
    clear hp hw hlen
    obtain ⟨i0, hi, hz0, hz1, hz2⟩ := info_parts info24
    go_enter Try.func9, Try.ntmps9
    go_wp2_with (first
      | (go_at_call 43; (with_reducible refine (HL.out _).mono ?_); rintro e w1 ⟨rfl, hb1⟩)
      | (go_at_call 44; go_must ((with_reducible refine (HF.out _ (HP.out.below hb1)).mono ?_); rintro e w2 ⟨rfl, q2, rfl⟩))
      | (go_at_call 45; go_must ((with_reducible refine (HM.out _ (HP.out.below (below_drewN hb1 _))).mono ?_); rintro e w3 ⟨rfl, hb3⟩)))
    have hg3 : Grew w.heap.size w w3 := ((Grew.of hb1).drewN q2).step hb3
    clear hb1 hb3 HF HM HL
    generalize hmm : mmTo L L.length = mm at *
    obtain ⟨mn, mlo, mhi⟩ := mm
    simp only at HA
    generalize hmd : medL (srt L) = md at *
    generalize hok : decide (0 < (srt L).length) = ok at *
    generalize hno : medL (srt (L.map negF)) = mo at *
    go_loopw [8, 9, 10] (fun u v i wr => ∃ k : Nat, k ≤ L.length ∧ i = .int .i64 k ∧ wr.ownsRow w.heap.size 24 1 u k (((L.map negF).take k).map encF) ∧ wr.ownsRow w.heap.size 24 1 v k ((L.reverse.take k).map encF) ∧ Apart u v ∧ Grew w.heap.size w wr)
      (fun _ _ i _ => L.length - (intOf i).toNat)
    case atStart => exact ⟨0, by omega, rfl, World.ownsRow_nil _ _ _ _, World.ownsRow_nil _ _ _ _, (fun k hk => by cases hk), hg3⟩
    case round =>
      obtain ⟨k, hk, rfl, hu, hv, hap, hgr⟩ := hrel
      by_cases hlt : k < L.length
      · obtain ⟨g, o, rfl, hg, hc⟩ := HP.out.some_ (by omega)
        have hgw : g < wr.heap.size := by have := hgr.2; omega
        have c0 := (hgr.1.cell (p := ⟨g, o + k, none⟩) hg).trans (hc k hlt)
        have c1 := (hgr.1.cell (p := ⟨g, o + (L.length - 1 - k), none⟩) hg).trans (hc (L.length - 1 - k) (by omega))
        obtain ⟨j, hj⟩ : ∃ j, j = L.length - 1 - k := ⟨_, rfl⟩
        have HNk := HN.out k hlt
        have HKk := HK.out k hlt
        rw [← hj] at c1 HKk
        have i1 : ((L.length : Nat) : Int) - 1 - (k : Int) = (j : Int) := by omega
        have i2 : (0 : Int) ≤ (j : Int) := by omega
        have i3 : (j : Int) < (L.length : Int) := by omega
        have i4 : (0 : Int) ≤ (k : Int) := by omega
        have i5 : (k : Int) < (L.length : Int) := by omega
        have i6 : 0 < L.length := by omega
        have i7 : j < L.length := by omega
        generalize L.getD k 0 = x at *
        generalize L.getD j 0 = y at *
        have hrn := fun wx => run_neg x wx
        generalize negF x = nx at *
        have HN1 := hide_ HNk
        have HK1 := hide_ HKk
        have hkb : (k + 1) * 8 ≤ 140737488355328 := by omega
        clear hc hj HNk HKk
        have tok1 : True := trivial
        have tok2 : True := trivial
        go_wp2_with (at_builtin; (first
          | (have _t := tok1; go_must (
              refine wpList_push2 rfl _ _ 80 rfl w.heap.size 24 i0 (.float .f64 0) 1 8 Try.underlying80 hi hz0 hz1 hz2 rfl (by decide) (by decide) _ k _ rfl (hu.alloc _) wr.heap.size #[.float .f64 nx] 24 1 1 rfl (heap_alloc_last _ _) rfl (by kernel_rfl) hkb (hgr.alloc _).2 ?_
              intro u' w4 ho4 hg4 hf4 hn4
              have hgA := hgr.alloc (.cells #[.float .f64 nx] 24)
              have hgr4 := own_grew hgA (hu.alloc (.cells #[.float .f64 nx] 24)) hg4
              have hgn : some g ≠ u8.ownBlock := fun e => by have := (hu.lt _ e.symm).1; omega
              have e1 := hg4.cell (a := ⟨g, o + j, none⟩) (cell_past c1) hgn
              have hvA := hv.alloc (.cells #[.float .f64 nx] 24)
              have hv4 := (hap.symm).kept hvA hg4
              have hap4 := hap.fresh hf4 (fun k hk => (hvA.lt k hk).2)
              clear tok1 hf4 hn4))
          | (have _t := tok2; go_must (
              refine wpList_push2 rfl _ _ 80 rfl w.heap.size 24 i0 (.float .f64 0) 1 8 Try.underlying80 hi hz0 hz1 hz2 rfl (by decide) (by decide) _ k _ rfl (hv4.alloc _) w4.heap.size #[.float .f64 y] 24 1 1 rfl (heap_alloc_last _ _) rfl (by kernel_rfl) hkb (hgr4.alloc _).2 ?_
              intro v' w5 ho5 hg5 hf5 hn5
              have hgB := hgr4.alloc (.cells #[.float .f64 y] 24)
              have hgr5 := own_grew hgB (hv4.alloc (.cells #[.float .f64 y] 24)) hg5
              have hu5 := hap4.kept (ho4.alloc (.cells #[.float .f64 y] 24)) hg5
              have hap5 := (hap4.symm.fresh hf5 (fun k hk => ((ho4.alloc (.cells #[.float .f64 y] 24)).lt k hk).2)).symm
              clear tok2 hf5 hn5))))
        exact ⟨⟨k + 1, hlt, by simp, by rw [HN1.out, List.map_append]; exact hu5, by rw [HK1.out, List.map_append]; exact ho5, hap5, hgr5⟩, by simp [intOf]; omega⟩
      · obtain rfl : k = L.length := by omega
        have hge : ¬ L.length < L.length := by omega
        rw [List.take_of_length_le (by simp)] at hu hv
        obtain ⟨p1, c1, rfl⟩ := row_slice hu
        obtain ⟨p2, c2, rfl⟩ := row_slice hv
        have F1 := (own_fl hu).2
        have F2 := (own_fl hv).2
        have HM1 := hide_ (median_any p1 L.length c1 (L.map negF) wr (by simp) F1 (w64_neg HW.out) (by omega))
        have HM2 := hide_ (fun W (h : FL W p2 L.reverse) => median_any p2 L.length c2 L.reverse W (by simp) h (fun x hx => HW.out x (by simpa using hx)) (by omega))
        have HF2 := hide_ F2
        rw [hno] at HM1
        rw [srt_back HW.out] at HM2
        have hl2 : (srt (L.map negF)).length = (srt L).length := by rw [srt_neg HW.out]; simp
        rw [hl2] at HM1
        rw [hok] at HM1 HM2
        rw [hmd] at HM2
        obtain ⟨a1, a2, a3, a4, a5, a6⟩ := HA.out
        rw [hok] at a2
        have hn0 : decide ((0 : Int) < (mn : Int)) = ok := by
          rw [← hok, a1, Bool.eq_iff_iff, decide_eq_true_eq, decide_eq_true_eq]; omega
        have hz0 : decide (0 < mn) = ok := by rw [← hok, a1]
        clear a1 a2 hmm hno hu hv F1 F2 hap hl2 HA hmd hok HN HK
        have HPP := HP.out
        cases ok
        · obtain ⟨rfl, rfl⟩ := a3 rfl
          have hq : (FloatKind.f64.format.order 0 0 == some .eq) = true := by decide +kernel
          clear a3 a4 a5 a6
          have tok1 : True := trivial
          go_wp2_with (first
            | (go_at_call 45; have _t := tok1; (with_reducible refine (HM1.out).mono ?_); rintro e w4 ⟨rfl, hb4⟩; clear tok1)
            | (go_at_call 45; go_must ((with_reducible refine (HM2.out _ (HF2.out.below hb4)).mono ?_); rintro e w5 ⟨rfl, hb5⟩)))
          go_ret
          exact ⟨rfl, ((hgr.step hb4).step hb5).below⟩
        · have h4 := a4 rfl
          have h5 : (FloatKind.f64.format.order mo (negF md) == some .eq) = true := by rw [a5 rfl]; rfl
          have h6 : (FloatKind.f64.format.order md md == some .eq) = true := by rw [a6]; rfl
          have hrn := fun wx => run_neg md wx
          generalize negF md = nm at *
          clear a3 a4 a5 a6
          have tok1 : True := trivial
          cases ht : L.any tinyB
          · obtain ⟨h7, h8⟩ := h4 ht
            rw [ht] at HTi
            have HPL := HP.out
            clear h4 ht
            have g7 : (FloatKind.f64.format.order md mlo == some .gt) = true ∨ ((FloatKind.f64.format.order md mlo == some .gt) = false ∧ (FloatKind.f64.format.order md mlo == some .eq) = true) := by
              rcases h7 with h | h <;> rw [h]
              · left; rfl
              · right; exact ⟨rfl, rfl⟩
            have g8 : (FloatKind.f64.format.order md mhi == some .lt) = true ∨ ((FloatKind.f64.format.order md mhi == some .lt) = false ∧ (FloatKind.f64.format.order md mhi == some .eq) = true) := by
              rcases h8 with h | h <;> rw [h]
              · left; rfl
              · right; exact ⟨rfl, rfl⟩
            clear h7 h8
            rcases g7 with g7 | ⟨g7, g7'⟩ <;> rcases g8 with g8 | ⟨g8, g8'⟩
            all_goals go_wp2_with (first
              | (go_at_call 45; have _t := tok1; (with_reducible refine (HM1.out).mono ?_); rintro e w4 ⟨rfl, hb4⟩; clear tok1)
              | (go_at_call 45; go_must ((with_reducible refine (HM2.out _ (HF2.out.below hb4)).mono ?_); rintro e w5 ⟨rfl, hb5⟩))
              | (go_at_call 46; go_must ((with_reducible refine (HTi.out _ (HPL.below ((hgr.step hb4).step hb5).below)).mono ?_); rintro e w6 ⟨rfl, rfl⟩)))
            all_goals go_ret
            all_goals exact ⟨rfl, ((hgr.step hb4).step hb5).below⟩
          · rw [ht] at HTi
            have HPL := HP.out
            clear h4 ht
            go_wp2_with (first
              | (go_at_call 45; have _t := tok1; (with_reducible refine (HM1.out).mono ?_); rintro e w4 ⟨rfl, hb4⟩; clear tok1)
              | (go_at_call 45; go_must ((with_reducible refine (HM2.out _ (HF2.out.below hb4)).mono ?_); rintro e w5 ⟨rfl, hb5⟩))
              | (go_at_call 46; go_must ((with_reducible refine (HTi.out _ (HPL.below ((hgr.step hb4).step hb5).below)).mono ?_); rintro e w6 ⟨rfl, rfl⟩)))
            go_ret
            exact ⟨rfl, ((hgr.step hb4).step hb5).below⟩
end Go.Proofs.Ytlgnidjkilbdfaa
