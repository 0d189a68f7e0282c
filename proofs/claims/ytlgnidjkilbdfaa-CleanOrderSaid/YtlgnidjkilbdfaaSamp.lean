/- Chapter 19: Samples, Lost, Len of the program's record. -/
import Derived.Test.YtlgnidjkilbdfaaTicks
namespace Go.Proofs.Ytlgnidjkilbdfaa
open Go.RowKit Go.Maps
set_option linter.unusedVariables false
set_option maxRecDepth 100000
/-- Samples as cells. -/
def flat (L : Rc) : List Value := L.flatMap fun p => [.int .i64 p.1, .float .f64 p.2]
theorem flat_append (L M : Rc) : flat (L ++ M) = flat L ++ flat M := List.flatMap_append
theorem flat_one (t : Int) (h : Nat) : flat [(t, h)] = [.int .i64 t, .float .f64 h] := rfl
theorem flat_len (L : Rc) : (flat L).length = L.length * 2 := by
  induction L with
  | nil => rfl
  | cons p L ih => unfold flat at *; rw [List.flatMap_cons, List.length_append, ih]; simp; omega
theorem flat_at : ∀ (L : Rc) (k : Nat), k < L.length → (flat L)[k * 2]? = some (.int .i64 (L.getD k (0, 0)).1) ∧ (flat L)[k * 2 + 1]? = some (.float .f64 (L.getD k (0, 0)).2)
  | [], k, h => by cases h
  | p :: L, 0, h => by unfold flat; simp
  | p :: L, k + 1, h => by
    have ih := flat_at L k (by simpa using h)
    have e : flat (p :: L) = [.int .i64 p.1, .float .f64 p.2] ++ flat L := rfl
    rw [e, show (k + 1) * 2 = 2 + k * 2 by omega]
    constructor
    · rw [List.getElem?_append_right (by simp), show 2 + k * 2 - [Value.int .i64 p.1, Value.float .f64 p.2].length = k * 2 by simp, ih.1]; simp
    · rw [List.getElem?_append_right (by simp; omega), show 2 + k * 2 + 1 - [Value.int .i64 p.1, Value.float .f64 p.2].length = k * 2 + 1 by simp; omega, ih.2]; simp
theorem info26 : (Try.prog.info? 26).map (fun i => (i.zero, i.size, i.bytes)) = some (some (.agg #[.int .i64 0, .float .f64 0]), 2, 16) := by kernel_rfl
theorem info3 : (Try.prog.info? 3).map (fun i => (i.zero, i.size, i.bytes)) = some (some (.int .i64 0), 1, 8) := by kernel_rfl
theorem take_snoc (L : Rc) (k : Nat) (h : k < L.length) : L.take (k + 1) = L.take k ++ [L.getD k (0, 0)] := by
  rw [List.take_add_one, List.getD_eq_getElem?_getD, List.getElem?_eq_getElem h]; rfl
theorem mem_getD {L : Rc} {k : Nat} (h : k < L.length) : L.getD k (0, 0) ∈ L := by
  rw [List.getD_eq_getElem?_getD, List.getElem?_eq_getElem h]
  exact List.getElem_mem h
theorem Rec.drewN {w : World} {rb mb : Nat} {L : Rc} (h : Rec w rb mb L) (n : Nat) : Rec (w.drewN n) rb mb L := ⟨h.ok, h.box, h.own⟩
theorem row_slice {w : World} {base : Nat} {e : TypeId} {size n : Nat} {v : Value} {xs : List Value} (h : w.ownsRow base e size v n xs) : ∃ p c, v = .slice p n c := by
  rcases h.2 with ⟨rfl, hz⟩ | ⟨g, cap, cur, rfl, _⟩
  · subst hz; exact ⟨_, _, rfl⟩
  · exact ⟨_, _, rfl⟩
theorem row_cells {w : World} {base : Nat} {e : TypeId} {size n c : Nat} {p : Option Addr} {xs : List Value} (h : w.ownsRow base e size (.slice p n c) n xs) (hn : 0 < n) : ∃ g, p = some ⟨g, 0, none⟩ ∧ base ≤ g ∧ g < w.heap.size ∧ ∀ j u, xs[j]? = some u → w.cell? ⟨g, j, none⟩ = some u := by
  rcases h.2 with ⟨e1, hz⟩ | ⟨g, cap, cur, e1, hb, hg, _⟩
  · omega
  · cases e1
    have hc := h.cells rfl
    refine ⟨g, rfl, hb, lt_of_heap hg, fun j u hj => ?_⟩
    have := hc j u hj
    rwa [show (⟨g, 0, none⟩ : Addr).add j = ⟨g, j, none⟩ by unfold Addr.add; split <;> simp_all] at this
set_option maxHeartbeats 1600000 in
theorem samples_rec {w : World} {rb mb : Nat} {L : Rc} (h : Rec w rb mb L) : Calls Try.prog 21 #[.pointer (some ⟨rb, 0, none⟩)] w fun e w' =>
    ∃ v, e = .returned v ∧ w'.ownsRow w.heap.size 26 2 v (ones L).length (flat (ones L)) ∧ (v = .slice none 0 0 ↔ ones L = []) ∧ Below w.heap.size w w' := by
  have HT := hide_ (ticks_rec h)
  have H := hide_ h
  clear h
  go_enter Try.func21, Try.ntmps21
  go_wp2_with (go_at_call 68; (with_reducible refine (HT.out).mono ?_); rintro e w1 ⟨v, rfl, hrow, hnil, hb⟩; obtain ⟨p, c, rfl⟩ := row_slice hrow)
  have Hr := hide_ hrow
  have hg1 := Grew.of hb
  have H1 := hide_ (H.out.below hb)
  have hlen := H.out.ok.len
  clear hrow hnil hb HT
  obtain ⟨i0, hi, hz0, hz1, hz2⟩ := info_parts info26
  go_loopw [3, 9] (fun out i wr => ∃ k : Nat, k ≤ L.length ∧ i = .int .i64 k ∧ wr.ownsRow w1.heap.size 26 2 out (ones (L.take k)).length (flat (ones (L.take k))) ∧ Hid (out = .slice none 0 0 ↔ ones (L.take k) = []) ∧ Grew w1.heap.size w1 wr)
    (fun _ i _ => L.length - (intOf i).toNat)
  case atStart => exact ⟨0, by omega, rfl, World.ownsRow_nil _ _ _ _, hide_ (by simp [ones]), Grew.refl _⟩
  case round =>
    obtain ⟨k, hk, rfl, hown, hnil, hgr⟩ := hrel
    by_cases hlt : k < L.length
    · have hrow := own_below Hr.out hgr.1
      have hrec := H1.out.below hgr.1
      obtain ⟨g, rfl, hgb, hgl, hcs⟩ := row_cells Hr.out (by omega)
      have hc : wr.cell? ⟨g, k, none⟩ = some (.int .i64 (L.getD k (0, 0)).1) := by
        rw [hgr.1.cell (p := ⟨g, k, none⟩) hgl]
        refine hcs k _ ?_
        rw [List.getElem?_map, List.getElem?_eq_getElem hlt, List.getD_eq_getElem?_getD, List.getElem?_eq_getElem hlt]; rfl
      have hmem := mem_getD hlt
      have hrg := hrec.ok.rng _ hmem
      have ht : I64 (L.getD k (0, 0)).1 := ⟨by omega, by omega⟩
      have hat : atT L (L.getD k (0, 0)).1 = (L.getD k (0, 0)).2 := at_mem hrec.ok.asc hmem
      have hl0 := own_look hrec.own ht false
      have hl1 := fun n => own_look (hrec.drewN n).own ht false
      rw [hat] at hl0
      simp only [hat] at hl1
      have hbox := cells_one hrec.box
      have hsn := take_snoc L k hlt
      have hlo : (ones (L.take k)).length ≤ L.length := Nat.le_trans (List.length_filter_le _ _) (by simp; omega)
      generalize htt : (L.getD k (0, 0)).1 = t at *
      generalize hhh : (L.getD k (0, 0)).2 = b at *
      have hgd : L.getD k (0, 0) = (t, b) := by rw [← htt, ← hhh]
      rw [hgd] at hsn
      have HO := hide_ (fun wx => one_any b wx)
      have HS := hide_ hsn
      clear hcs hrow hmem hat hsn hgd htt hhh
      simp only [Bool.false_eq_true, if_false] at hl0 hl1
      cases hone : oneB b
      · have hs2 : ones (L.take (k + 1)) = ones (L.take k) := by rw [HS.out]; unfold ones; rw [List.filter_append]; simp [hone]
        have HO := hide_ (fun wx => by have := HO.out wx; rw [hone] at this; exact this)
        have H2 := hide_ hs2
        clear hs2 hone
        go_wp2_with (go_at_call 69; (with_reducible refine (HO.out _).mono ?_); rintro e w2 ⟨rfl, nn, rfl⟩)
        go_roundw
        case rel => exact ⟨k + 1, by omega, by go_num, by rw [H2.out]; exact hown, hide_ (by rw [H2.out]; exact hnil.out), hgr.drewN nn⟩
        case measure => simp [intOf]; omega
      · have hs2 : ones (L.take (k + 1)) = ones (L.take k) ++ [(t, b)] := by rw [HS.out]; unfold ones; rw [List.filter_append]; simp [hone]
        have HO := hide_ (fun wx => by have := HO.out wx; rw [hone] at this; exact this)
        have H2 := hide_ hs2
        clear hs2 hone
        have hbase := hgr.2
        have hown2 := fun nn : Nat => (show (wr.drewN nn).ownsRow w1.heap.size 26 2 _ (ones (L.take k)).length (flat (ones (L.take k))) from hown)
        have hb16 : ((ones (L.take k)).length + 1) * 16 ≤ 140737488355328 := by omega
        go_wp2_with (first
          | (go_at_call 69; (with_reducible refine (HO.out _).mono ?_); rintro e w2 ⟨rfl, nn, rfl⟩)
          | (at_builtin; go_must (refine wpList_push rfl _ _ 23 rfl w1.heap.size 26 i0 (.agg #[.int .i64 0, .float .f64 0]) 2 16 Try.underlying23 hi hz0 hz1 hz2 rfl (by decide) (by decide) _ (ones (L.take k)).length _ rfl (hown2 nn) #[.int .i64 t, .float .f64 b] 26 1 1 rfl rfl (by kernel_rfl) hb16 hbase ?_; intro v' w3 ho3 hb3 hg3 hn3)))
        go_roundw
        case rel =>
          refine ⟨k + 1, by omega, by go_num, ?_, hide_ ?_, (hgr.drewN nn).more hb3⟩
          · rw [H2.out, List.length_append, flat_append]
            exact ho3
          · rw [H2.out, hn3]
            simp
        case measure => simp [intOf]; omega
    · obtain rfl : k = L.length := by omega
      have hge : ¬ L.length < L.length := by omega
      go_wp2
      go_ret
      rw [List.take_length] at hown hnil
      exact ⟨_, rfl, Go.Proofs.ownsRow_base_a hown hg1.below.size, hnil.out, (hg1.step hgr.1).below⟩
set_option maxHeartbeats 1600000 in
theorem lost_rec {w : World} {rb mb : Nat} {L : Rc} (h : Rec w rb mb L) : Calls Try.prog 24 #[.pointer (some ⟨rb, 0, none⟩)] w fun e w' =>
    ∃ v, e = .returned v ∧ w'.ownsRow w.heap.size 3 1 v (lost L).length ((lost L).map iv) ∧ (v = .slice none 0 0 ↔ lost L = []) ∧ Below w.heap.size w w' := by
  have HT := hide_ (ticks_rec h)
  have H := hide_ h
  clear h
  go_enter Try.func24, Try.ntmps24
  go_wp2_with (go_at_call 68; (with_reducible refine (HT.out).mono ?_); rintro e w1 ⟨v, rfl, hrow, hnil, hb⟩; obtain ⟨p, c, rfl⟩ := row_slice hrow)
  have Hr := hide_ hrow
  have hg1 := Grew.of hb
  have H1 := hide_ (H.out.below hb)
  have hlen := H.out.ok.len
  clear hrow hnil hb HT
  obtain ⟨i0, hi, hz0, hz1, hz2⟩ := info_parts info3
  go_loopw [3, 9] (fun out i wr => ∃ k : Nat, k ≤ L.length ∧ i = .int .i64 k ∧ wr.ownsRow w1.heap.size 3 1 out (lost (L.take k)).length ((lost (L.take k)).map iv) ∧ Hid (out = .slice none 0 0 ↔ lost (L.take k) = []) ∧ Grew w1.heap.size w1 wr)
    (fun _ i _ => L.length - (intOf i).toNat)
  case atStart => exact ⟨0, by omega, rfl, World.ownsRow_nil _ _ _ _, hide_ (by simp [lost]), Grew.refl _⟩
  case round =>
    obtain ⟨k, hk, rfl, hown, hnil, hgr⟩ := hrel
    by_cases hlt : k < L.length
    · have hrow := own_below Hr.out hgr.1
      have hrec := H1.out.below hgr.1
      obtain ⟨g, rfl, hgb, hgl, hcs⟩ := row_cells Hr.out (by omega)
      have hc : wr.cell? ⟨g, k, none⟩ = some (.int .i64 (L.getD k (0, 0)).1) := by
        rw [hgr.1.cell (p := ⟨g, k, none⟩) hgl]
        refine hcs k _ ?_
        rw [List.getElem?_map, List.getElem?_eq_getElem hlt, List.getD_eq_getElem?_getD, List.getElem?_eq_getElem hlt]; rfl
      have hmem := mem_getD hlt
      have hrg := hrec.ok.rng _ hmem
      have ht : I64 (L.getD k (0, 0)).1 := ⟨by omega, by omega⟩
      have hat : atT L (L.getD k (0, 0)).1 = (L.getD k (0, 0)).2 := at_mem hrec.ok.asc hmem
      have hl0 := own_look hrec.own ht false
      rw [hat] at hl0
      have hbox := cells_one hrec.box
      have hsn := take_snoc L k hlt
      have hlo : (lost (L.take k)).length ≤ L.length := by unfold lost; rw [List.length_map]; exact Nat.le_trans (List.length_filter_le _ _) (by simp; omega)
      generalize htt : (L.getD k (0, 0)).1 = t at *
      generalize hhh : (L.getD k (0, 0)).2 = b at *
      have hgd : L.getD k (0, 0) = (t, b) := by rw [← htt, ← hhh]
      rw [hgd] at hsn
      have HO := hide_ (fun wx => one_any b wx)
      have HS := hide_ hsn
      clear hcs hrow hmem hat hsn hgd htt hhh
      simp only [Bool.false_eq_true, if_false] at hl0
      cases hone : oneB b
      rotate_left
      · have hs2 : lost (L.take (k + 1)) = lost (L.take k) := by rw [HS.out]; unfold lost; rw [List.filter_append]; simp [hone]
        have HO := hide_ (fun wx => by have := HO.out wx; rw [hone] at this; exact this)
        have H2 := hide_ hs2
        clear hs2 hone
        go_wp2_with (go_at_call 69; (with_reducible refine (HO.out _).mono ?_); rintro e w2 ⟨rfl, nn, rfl⟩)
        go_roundw
        case rel => exact ⟨k + 1, by omega, by go_num, by rw [H2.out]; exact hown, hide_ (by rw [H2.out]; exact hnil.out), hgr.drewN nn⟩
        case measure => simp [intOf]; omega
      · have hs2 : lost (L.take (k + 1)) = lost (L.take k) ++ [t] := by rw [HS.out]; unfold lost; rw [List.filter_append]; simp [hone]
        have HO := hide_ (fun wx => by have := HO.out wx; rw [hone] at this; exact this)
        have H2 := hide_ hs2
        clear hs2 hone
        have hbase := hgr.2
        have hown2 := fun nn : Nat => (show (wr.drewN nn).ownsRow w1.heap.size 3 1 _ (lost (L.take k)).length ((lost (L.take k)).map iv) from hown)
        have hb16 : ((lost (L.take k)).length + 1) * 8 ≤ 140737488355328 := by omega
        go_wp2_with (first
          | (go_at_call 69; (with_reducible refine (HO.out _).mono ?_); rintro e w2 ⟨rfl, nn, rfl⟩)
          | (at_builtin; go_must (refine wpList_push rfl _ _ 44 rfl w1.heap.size 3 i0 (.int .i64 0) 1 8 Try.underlying44 hi hz0 hz1 hz2 rfl (by decide) (by decide) _ (lost (L.take k)).length _ rfl (hown2 nn) #[.int .i64 t] 3 1 1 rfl rfl (by kernel_rfl) hb16 hbase ?_; intro v' w3 ho3 hb3 hg3 hn3)))
        go_roundw
        case rel =>
          refine ⟨k + 1, by omega, by go_num, ?_, hide_ ?_, (hgr.drewN nn).more hb3⟩
          · rw [H2.out, List.length_append, List.map_append]
            exact ho3
          · rw [H2.out, hn3]
            simp
        case measure => simp [intOf]; omega
    · obtain rfl : k = L.length := by omega
      have hge : ¬ L.length < L.length := by omega
      go_wp2
      go_ret
      rw [List.take_length] at hown hnil
      exact ⟨_, rfl, Go.Proofs.ownsRow_base_a hown hg1.below.size, hnil.out, (hg1.step hgr.1).below⟩
theorem len_rec {w : World} {rb mb : Nat} {L : Rc} (h : Rec w rb mb L) : Calls Try.prog 29 #[.pointer (some ⟨rb, 0, none⟩)] w fun e w' =>
    e = .returned (.int .i64 ((ones L).length : Int)) ∧ Below w.heap.size w w' := by
  have HS := hide_ (samples_rec h)
  clear h
  go_enter Try.func29, Try.ntmps29
  go_wp2_with (go_at_call 21; (with_reducible refine (HS.out).mono ?_); rintro e w1 ⟨v, rfl, hrow, hnil, hb⟩; obtain ⟨p, c, rfl⟩ := row_slice hrow)
  go_ret
  exact ⟨rfl, hb⟩
end Go.Proofs.Ytlgnidjkilbdfaa
