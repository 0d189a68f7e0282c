/- Chapter 19: the reference's record: Samples, Lost, Len, At. -/
import Derived.Test.YtlgnidjkilbdfaaRef2
namespace Go.Proofs.Ytlgnidjkilbdfaa
open Go.RowKit Go.Maps
set_option linter.unusedVariables false
set_option maxRecDepth 100000
set_option maxHeartbeats 1600000 in
theorem rsamples_rec {w : World} {qb : Nat} {v : Value} {L : Rc} (h : RRec w qb v L) : Calls Try.prog 22 #[.pointer (some ⟨qb, 0, none⟩)] w fun e w' =>
    ∃ v, e = .returned v ∧ w'.ownsRow w.heap.size 26 2 v (ones L).length (flat (ones L)) ∧ (v = .slice none 0 0 ↔ ones L = []) ∧ Below w.heap.size w w' := by
  obtain ⟨p, c, rfl⟩ := h.slice
  have H := hide_ h
  have hlen := h.ok.len
  clear h
  obtain ⟨i0, hi, hz0, hz1, hz2⟩ := info_parts info26
  go_enter Try.func22, Try.ntmps22
  go_wp2
  go_loopw [3, 4] (fun out i wr => ∃ k : Nat, k ≤ L.length ∧ i = .int .i64 k ∧ wr.ownsRow w.heap.size 26 2 out (ones (L.take k)).length (flat (ones (L.take k))) ∧ Hid (out = .slice none 0 0 ↔ ones (L.take k) = []) ∧ Grew w.heap.size w wr)
    (fun _ i _ => L.length - (intOf i).toNat)
  case atStart => exact ⟨0, by omega, rfl, World.ownsRow_nil _ _ _ _, hide_ (by simp [ones]), Grew.refl _⟩
  case round =>
    obtain ⟨k, hk, rfl, hown, hnil, hgr⟩ := hrel
    have hrec := H.out.below hgr.1
    have HN := hide_ (rnone_rec hrec)
    obtain ⟨hb0, hb1⟩ := cells_two hrec.box
    by_cases hlt : k < L.length
    · obtain ⟨g, rfl, hc0, hc1⟩ := hrec.cells hlt
      have hsn := take_snoc L k hlt
      have hlo : (ones (L.take k)).length ≤ L.length := Nat.le_trans (List.length_filter_le _ _) (by simp; omega)
      generalize htt : (L.getD k (0, 0)).1 = t at *
      generalize hhh : (L.getD k (0, 0)).2 = b at *
      have hgd : L.getD k (0, 0) = (t, b) := by rw [← htt, ← hhh]
      rw [hgd] at hsn
      have HO := hide_ (fun wx => rone_any t b wx)
      have HS := hide_ hsn
      clear hsn hgd htt hhh hrec
      cases hone : oneB b
      · have hs2 : ones (L.take (k + 1)) = ones (L.take k) := by rw [HS.out]; unfold ones; rw [List.filter_append]; simp [hone]
        have HO := hide_ (fun wx => by have := HO.out wx; rw [hone] at this; exact this)
        have H2 := hide_ hs2
        clear hs2 hone
        go_wp2_with (first
          | (go_at_call 70; (with_reducible refine (HN.out).mono ?_); rintro e w1 ⟨rfl, rfl⟩)
          | (go_at_call 71; (with_reducible refine (HO.out _).mono ?_); rintro e w2 ⟨rfl, hb2⟩))
        go_roundw
        case rel => exact ⟨k + 1, by omega, by go_num, by rw [H2.out]; exact own_below hown hb2, hide_ (by rw [H2.out]; exact hnil.out), hgr.step hb2⟩
        case measure => simp [intOf]; omega
      · have hs2 : ones (L.take (k + 1)) = ones (L.take k) ++ [(t, b)] := by rw [HS.out]; unfold ones; rw [List.filter_append]; simp [hone]
        have HO := hide_ (fun wx => by have := HO.out wx; rw [hone] at this; exact this)
        have H2 := hide_ hs2
        clear hs2 hone
        have hb16 : ((ones (L.take k)).length + 1) * 16 ≤ 140737488355328 := by omega
        have hl0 : g < wr.heap.size := World.block_lt_of_cell? wr _ hc0
        have hl1 : qb < wr.heap.size := World.block_lt_of_cell? wr _ hb0
        go_wp2_with (first
          | (go_at_call 70; (with_reducible refine (HN.out).mono ?_); rintro e w1 ⟨rfl, rfl⟩)
          | (go_at_call 71; (with_reducible refine (HO.out _).mono ?_); rintro e w2 ⟨rfl, hb2⟩; have e0 := (hb2.cell (p := ⟨g, k * 2, none⟩) hl0).trans hc0; have e1 := (hb2.cell (p := ⟨g, k * 2 + 1, none⟩) hl0).trans hc1; have e2 := (hb2.cell (p := ⟨qb, 1, none⟩) hl1).trans hb1; have hgr2 := hgr.step hb2; have hbase := hgr2.2; have hown2 := own_below hown hb2)
          | (at_builtin; go_must (refine wpList_push rfl _ _ 23 rfl w.heap.size 26 i0 (.agg #[.int .i64 0, .float .f64 0]) 2 16 Try.underlying23 hi hz0 hz1 hz2 rfl (by decide) (by decide) _ (ones (L.take k)).length _ rfl hown2 #[.int .i64 t, .float .f64 b] 26 1 1 rfl rfl (by kernel_rfl) hb16 hbase ?_; intro v' w3 ho3 hb3 hg3 hn3)))
        go_roundw
        case rel =>
          refine ⟨k + 1, by omega, by go_num, ?_, hide_ ?_, hgr2.more hb3⟩
          · rw [H2.out, List.length_append, flat_append]
            exact ho3
          · rw [H2.out, hn3]
            simp
        case measure => simp [intOf]; omega
    · obtain rfl : k = L.length := by omega
      have hge : ¬ L.length < L.length := by omega
      go_wp2_with (go_at_call 70; (with_reducible refine (HN.out).mono ?_); rintro e w1 ⟨rfl, rfl⟩)
      go_ret
      rw [List.take_length] at hown hnil
      exact ⟨_, rfl, hown, hnil.out, hgr.below⟩
set_option maxHeartbeats 1600000 in
theorem rlost_rec {w : World} {qb : Nat} {v : Value} {L : Rc} (h : RRec w qb v L) : Calls Try.prog 25 #[.pointer (some ⟨qb, 0, none⟩)] w fun e w' =>
    ∃ v, e = .returned v ∧ w'.ownsRow w.heap.size 3 1 v (lost L).length ((lost L).map iv) ∧ (v = .slice none 0 0 ↔ lost L = []) ∧ Below w.heap.size w w' := by
  obtain ⟨p, c, rfl⟩ := h.slice
  have H := hide_ h
  have hlen := h.ok.len
  clear h
  obtain ⟨i0, hi, hz0, hz1, hz2⟩ := info_parts info3
  go_enter Try.func25, Try.ntmps25
  go_wp2
  go_loopw [3, 4] (fun out i wr => ∃ k : Nat, k ≤ L.length ∧ i = .int .i64 k ∧ wr.ownsRow w.heap.size 3 1 out (lost (L.take k)).length ((lost (L.take k)).map iv) ∧ Hid (out = .slice none 0 0 ↔ lost (L.take k) = []) ∧ Grew w.heap.size w wr)
    (fun _ i _ => L.length - (intOf i).toNat)
  case atStart => exact ⟨0, by omega, rfl, World.ownsRow_nil _ _ _ _, hide_ (by simp [lost]), Grew.refl _⟩
  case round =>
    obtain ⟨k, hk, rfl, hown, hnil, hgr⟩ := hrel
    have hrec := H.out.below hgr.1
    have HN := hide_ (rnone_rec hrec)
    obtain ⟨hb0, hb1⟩ := cells_two hrec.box
    by_cases hlt : k < L.length
    · obtain ⟨g, rfl, hc0, hc1⟩ := hrec.cells hlt
      have hsn := take_snoc L k hlt
      have hlo : (lost (L.take k)).length ≤ L.length := by unfold lost; rw [List.length_map]; exact Nat.le_trans (List.length_filter_le _ _) (by simp; omega)
      generalize htt : (L.getD k (0, 0)).1 = t at *
      generalize hhh : (L.getD k (0, 0)).2 = b at *
      have hgd : L.getD k (0, 0) = (t, b) := by rw [← htt, ← hhh]
      rw [hgd] at hsn
      have HO := hide_ (fun wx => rone_any t b wx)
      have HS := hide_ hsn
      clear hsn hgd htt hhh hrec
      cases hone : oneB b
      rotate_left
      · have hs2 : lost (L.take (k + 1)) = lost (L.take k) := by rw [HS.out]; unfold lost; rw [List.filter_append]; simp [hone]
        have HO := hide_ (fun wx => by have := HO.out wx; rw [hone] at this; exact this)
        have H2 := hide_ hs2
        clear hs2 hone
        go_wp2_with (first
          | (go_at_call 70; (with_reducible refine (HN.out).mono ?_); rintro e w1 ⟨rfl, rfl⟩)
          | (go_at_call 71; (with_reducible refine (HO.out _).mono ?_); rintro e w2 ⟨rfl, hb2⟩))
        go_roundw
        case rel => exact ⟨k + 1, by omega, by go_num, by rw [H2.out]; exact own_below hown hb2, hide_ (by rw [H2.out]; exact hnil.out), hgr.step hb2⟩
        case measure => simp [intOf]; omega
      · have hs2 : lost (L.take (k + 1)) = lost (L.take k) ++ [t] := by rw [HS.out]; unfold lost; rw [List.filter_append]; simp [hone]
        have HO := hide_ (fun wx => by have := HO.out wx; rw [hone] at this; exact this)
        have H2 := hide_ hs2
        clear hs2 hone
        have hb16 : ((lost (L.take k)).length + 1) * 8 ≤ 140737488355328 := by omega
        have hl0 : g < wr.heap.size := World.block_lt_of_cell? wr _ hc0
        have hl1 : qb < wr.heap.size := World.block_lt_of_cell? wr _ hb0
        go_wp2_with (first
          | (go_at_call 70; (with_reducible refine (HN.out).mono ?_); rintro e w1 ⟨rfl, rfl⟩)
          | (go_at_call 71; (with_reducible refine (HO.out _).mono ?_); rintro e w2 ⟨rfl, hb2⟩; have e0 := (hb2.cell (p := ⟨g, k * 2, none⟩) hl0).trans hc0; have e1 := (hb2.cell (p := ⟨g, k * 2 + 1, none⟩) hl0).trans hc1; have e2 := (hb2.cell (p := ⟨qb, 1, none⟩) hl1).trans hb1; have hgr2 := hgr.step hb2; have hbase := hgr2.2; have hown2 := own_below hown hb2)
          | (at_builtin; go_must (refine wpList_push rfl _ _ 44 rfl w.heap.size 3 i0 (.int .i64 0) 1 8 Try.underlying44 hi hz0 hz1 hz2 rfl (by decide) (by decide) _ (lost (L.take k)).length _ rfl hown2 #[.int .i64 t] 3 1 1 rfl rfl (by kernel_rfl) hb16 hbase ?_; intro v' w3 ho3 hb3 hg3 hn3)))
        go_roundw
        case rel =>
          refine ⟨k + 1, by omega, by go_num, ?_, hide_ ?_, hgr2.more hb3⟩
          · rw [H2.out, List.length_append, List.map_append]
            exact ho3
          · rw [H2.out, hn3]
            simp
        case measure => simp [intOf]; omega
    · obtain rfl : k = L.length := by omega
      have hge : ¬ L.length < L.length := by omega
      go_wp2_with (go_at_call 70; (with_reducible refine (HN.out).mono ?_); rintro e w1 ⟨rfl, rfl⟩)
      go_ret
      rw [List.take_length] at hown hnil
      exact ⟨_, rfl, hown, hnil.out, hgr.below⟩
theorem rlen_rec {w : World} {qb : Nat} {v : Value} {L : Rc} (h : RRec w qb v L) : Calls Try.prog 75 #[.pointer (some ⟨qb, 0, none⟩)] w fun e w' =>
    e = .returned (.int .i64 ((ones L).length : Int)) ∧ Below w.heap.size w w' := by
  have HS := hide_ (rsamples_rec h)
  clear h
  go_enter Try.func75, Try.ntmps75
  go_wp2_with (go_at_call 22; (with_reducible refine (HS.out).mono ?_); rintro e w1 ⟨v, rfl, hrow, hnil, hb⟩; obtain ⟨p, c, rfl⟩ := row_slice hrow)
  go_ret
  exact ⟨rfl, hb⟩
set_option maxHeartbeats 1600000 in
theorem rat_rec {w : World} {qb : Nat} {v : Value} {L : Rc} {t : Int} (h : RRec w qb v L) : Calls Try.prog 77 #[.pointer (some ⟨qb, 0, none⟩), .int .i64 t] w fun e w' =>
    e = .returned (.tuple #[.float .f64 (if hasT L t && oneB (atT L t) then atT L t else 0), .bool (hasT L t && oneB (atT L t))]) ∧ Below w.heap.size w w' := by
  have HN := hide_ (rnone_rec h)
  have HP := hide_ (place_rec (t := t) h)
  obtain ⟨p, c, rfl⟩ := h.slice
  obtain ⟨hb0, hb1⟩ := cells_two h.box
  have hpl := has_plc (t := t) h.ok.asc
  have hap := at_plc (t := t) h.ok.asc
  cases h1 : hasT L t
  · rw [h1] at HP
    clear h h1 hpl hap
    go_enter Try.func77, Try.ntmps77
    go_wp2_with (first
      | (go_at_call 70; (with_reducible refine (HN.out).mono ?_); rintro e w1 ⟨rfl, rfl⟩)
      | (go_at_call 103; (with_reducible refine (HP.out).mono ?_); rintro e w1 ⟨rfl, nn, rfl⟩))
    go_ret2
    exact ⟨rfl, below_drewN (Below.refl _ _) _⟩
  · have hpl2 : plc L t < L.length := by
      have := (Bool.and_eq_true_iff.1 (hpl.symm.trans h1)).1
      simpa using this
    have h2 := hap h1
    rw [h1] at HP
    have hlen := h.ok.len
    obtain ⟨g, rfl, hc0, hc1⟩ := h.cells hpl2
    rw [← h2] at hc1
    have HO := hide_ (fun wx => rone_any (L.getD (plc L t) (0, 0)).1 (atT L t) wx)
    generalize (L.getD (plc L t) (0, 0)).1 = x at *
    generalize atT L t = b at *
    generalize plc L t = k at *
    have hl0 : g < w.heap.size := World.block_lt_of_cell? w _ hc0
    have hl1 : qb < w.heap.size := World.block_lt_of_cell? w _ hb0
    clear h h1 h2 hpl hap
    cases ho : oneB b <;> rw [ho] at HO
    · clear ho
      go_enter Try.func77, Try.ntmps77
      go_wp2_with (first
        | (go_at_call 70; (with_reducible refine (HN.out).mono ?_); rintro e w1 ⟨rfl, rfl⟩)
        | (go_at_call 103; (with_reducible refine (HP.out).mono ?_); rintro e w1 ⟨rfl, nn, rfl⟩)
        | (go_at_call 71; (with_reducible refine (HO.out _).mono ?_); rintro e w2 ⟨rfl, hb2⟩))
      go_ret2
      exact ⟨rfl, (below_drewN (Below.refl _ _) _).trans hb2⟩
    · clear ho
      go_enter Try.func77, Try.ntmps77
      go_wp2_with (first
        | (go_at_call 70; (with_reducible refine (HN.out).mono ?_); rintro e w1 ⟨rfl, rfl⟩)
        | (go_at_call 103; (with_reducible refine (HP.out).mono ?_); rintro e w1 ⟨rfl, nn, rfl⟩)
        | (go_at_call 71; (with_reducible refine (HO.out _).mono ?_); rintro e w2 ⟨rfl, hb2⟩; have e1 := (hb2.cell (p := ⟨g, k * 2 + 1, none⟩) hl0).trans hc1; have e2 := (hb2.cell (p := ⟨qb, 1, none⟩) hl1).trans hb1))
      go_ret2
      exact ⟨rfl, (below_drewN (Below.refl _ _) _).trans hb2⟩
end Go.Proofs.Ytlgnidjkilbdfaa
