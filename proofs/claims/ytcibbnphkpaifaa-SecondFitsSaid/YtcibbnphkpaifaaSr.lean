/- second.Curve: the walk. -/
import Derived.Test.YtcibbnphkpaifaaSq
namespace Go.Proofs.Ytcibbnphkpaifaa
open Go.RowKit
set_option linter.unusedVariables false
set_option maxRecDepth 100000
theorem heap_drew {w : World} {g : Nat} {o : Option Obj} (h : w.heap[g]? = o) : w.drew.heap[g]? = o := h
/-- A list of fractions that is told, or a fault. -/
def ResL (w : World) (H : List Rat) (er : Int) (e : Ending) (w' : World) : Prop := ((er = 0 ∧ ∃ v Z, e = .returned (.tuple #[v, .agg #[.int .i64 0, .int .i64 0]]) ∧ OFs w' w.heap.size v Z ∧ Z.map Ze.h = H) ∨ (er ≠ 0 ∧ e = .returned (.tuple #[.slice none 0 0, .agg #[.int .i64 er, .int .i64 (-1)]]))) ∧ Below w.heap.size w w'
set_option maxHeartbeats 12800000 in
theorem curve_ok (p : Option Addr) (n c : Nat) (t1 t2 : Int) (m : Nat) (L : List Wt) (w : World) (hn : n = L.length) (hp : WSl w p L) (hl : n ≤ 4096) (hs : Snd L) (b1 : -9223372036854775808 ≤ t1 ∧ t1 < 9223372036854775808) (b2 : -9223372036854775808 ≤ t2 ∧ t2 < 9223372036854775808) (hm : t2 = t1 + (m : Int)) (hm2 : m ≤ 4096) :
    Calls Try.prog 17 #[.slice p n c, .int .i64 t1, .int .i64 t2] w (ResL w (curveH L t1 m) (curveE L t1 m)) := by
  have HK := hide_ (fun W (h : Below w.heap.size w W) => checkW_any p n c L W hn (hp.below h) hl)
  rw [hs.zero] at HK
  have HAO := hide_ (fun t W (h : Below w.heap.size w W) h0 => at_ok p n c t L W hn hs (hp.below h) hl h0)
  have HAN := hide_ (fun t W (h : Below w.heap.size w W) h0 => at_no p n c t L W hn hs (hp.below h) hl h0)
  clear hp hn hl hs
  have hb0 : Below w.heap.size w (w.alloc (.cells #[.int .i64 0, .int .i64 0] 27)) := below_alloc _ _
  have HR2 := hide_ (heap_alloc_last w (.cells #[.int .i64 0, .int .i64 0] 27))
  have z1 : decide (t2 < t1) = false := decide_eq_false (by omega)
  have z2 : decide (4096 < IntKind.u64.wrap (IntKind.u64.wrap t2 - IntKind.u64.wrap t1)) = false := decide_eq_false (by rw [w64, w64, w64]; omega)
  obtain ⟨i0, hi, hz0, hz1, hz2⟩ := info_parts info_R
  have HM := hide_ hm
  clear hm
  go_enter Try.func17, Try.ntmps17
  go_wp2_with (first
    | (go_at_call 13; go_must (
        (with_reducible refine (HK.out _ hb0).mono ?_)
        rintro e w1 ⟨rfl, hb1⟩
        have r2 := heap_past (o' := .cells #[.int .i64 0, .int .i64 0] 27) ((hb1.block _ (lt_of_heap HR2.out)).trans HR2.out)
        have hb2 : Below w.heap.size w (w1.alloc (.cells #[.int .i64 0, .int .i64 0] 27)) := (hb0.trans (hb1.mono hb0.size)).alloc (hb0.trans (hb1.mono hb0.size)).size _
        obtain ⟨x0, x1⟩ := cells_two (heap_alloc_last w1 (.cells #[.int .i64 0, .int .i64 0] 27))))
    | ((with_reducible apply wpList_store_new); (with_reducible rfl); (with_reducible rfl); rfl; rfl; kernel_rfl; rfl; kernel_rfl) | ((with_reducible apply wpList_store_blk); (with_reducible rfl); (with_reducible rfl); rfl; assumption; rfl; kernel_rfl; rfl; kernel_rfl))
  clear x0 x1 z2 z1
  have HR := hide_ r2
  have hlt := lt_of_heap r2
  clear r2 hb1
  generalize (w1.alloc (.cells #[.int .i64 0, .int .i64 0] 27)) = w2 at *
  have HB2 := hide_ hb2
  clear hb2 hb0
  go_loopw [9, 10] (fun ov tv wr => ∃ Z, Z.length ≤ m ∧ tv = .int .i64 (t1 + (Z.length : Int)) ∧ OFs wr w2.heap.size ov Z ∧ Hid (Z.map Ze.h = curveH L t1 Z.length) ∧ Hid (∀ i : Nat, i < Z.length → (atQ L (t1 + (i : Int))).2 = 0) ∧ Grew w2.heap.size w2 wr) (fun _ tv _ => m - (intOf tv - t1).toNat)
  case atStart => exact ⟨[], Nat.zero_le _, by simp, OFs.nil _ _, hide_ rfl, hide_ (fun i h => by simp at h), Grew.refl _⟩
  case round =>
    obtain ⟨Z, hk, rfl, hO, HH, HG0, hgr⟩ := hrel
    obtain ⟨p', c', rfl⟩ := row_slice hO.1
    have hbw : Below w.heap.size w wr := HB2.out.trans (hgr.below.mono HB2.out.size)
    have hrr : wr.heap[w.heap.size]? = some (.cells #[.int .i64 0, .int .i64 0] 27) := (hgr.below.block _ hlt).trans HR.out
    have HW := hide_ hgr
    have HBW := hide_ hbw
    have HRR := hide_ hrr
    have HO := hide_ hO
    have hl2 : w2.heap.size ≤ wr.heap.size := hgr.2
    have HM2 := hide_ (show t2 = t1 + (m : Int) from HM.out)
    clear hgr hbw hrr hO
    by_cases h0 : Z.length = m
    · subst h0
      have HE := hide_ (curveE_zero HG0.out)
      have d1 : decide (t1 + (Z.length : Int) < t2) = false := decide_eq_false (by rw [HM2.out]; omega)
      clear HAO HAN
      have hrr := HRR.out
      go_wp2_with ((with_reducible apply wpList_store_blk); (with_reducible rfl); (with_reducible rfl); rfl; assumption; rfl; kernel_rfl; rfl; kernel_rfl)
      refine ret_tc rfl w.heap.size 27 _ _ rfl (setRow_heap _ _ _ _ _ _ hrr) Try.underlying27 rfl (by kernel_rfl) rfl ?_
      have hfin : w.heap.size < w2.heap.size := hlt
      have hset : Below w2.heap.size wr (wr.setRow w.heap.size #[.int .i64 0, .int .i64 0]) → True := fun _ => trivial
      refine ⟨.inl ⟨HE.out, _, Z, rfl, ?_, HH.out⟩, below_setRow HBW.out (Nat.le_refl _) _⟩
      refine ⟨?_, ?_⟩
      · have h1 := HO.out.1
        refine ownsRow_base_a (h1.kept (grown_setRow _ w.heap.size _) ?_) (Nat.le_of_lt hlt)
        cases ho : (Value.slice p' Z.length c').ownBlock with
        | none => exact .inl rfl
        | some j => exact .inr (fun e => by injection e with e; subst e; have := (World.ownsRow.lt h1 _ ho).1; omega)
      · refine ⟨fun z hz => ⟨?_, (HO.out.2.1 z hz).2⟩, HO.out.2.2⟩
        exact (((HO.out.2.1 z hz).1.stored (W := w) hlt).mono (Nat.le_of_lt hlt))
    · have hk1 : Z.length < m := by omega
      have d1 : decide (t1 + (Z.length : Int) < t2) = true := decide_eq_true (by rw [HM2.out]; omega)
      have hw1 : IntKind.i64.wrap (t1 + (Z.length : Int) + 1) = t1 + ((Z.length + 1 : Nat) : Int) := by have := HM2.out; rw [IntWalk.i64_in _ (by omega)]; omega
      by_cases hA : (atQ L (t1 + (Z.length : Int))).2 = 0
      · have HA := hide_ (HAO.out (t1 + (Z.length : Int)) wr HBW.out hA)
        have HH2 := hide_ (curveH_succ L t1 Z.length)
        have HG2 := hide_ (show ∀ i : Nat, i < Z.length + 1 → (atQ L (t1 + (i : Int))).2 = 0 from fun i hi => by
          by_cases e : i = Z.length
          · subst e; exact hA
          · exact HG0.out i (by omega))
        clear HAO HAN hA
        generalize (atQ L (t1 + (Z.length : Int))).1 = x at *
        have hkb : (Z.length + 1) * 56 ≤ 140737488355328 := by omega
        go_wp2_with (first
          | (go_at_call 54; go_must (
              (with_reducible refine (HA.out).mono ?_)
              rintro e w3 ⟨⟨s, p3, n3, c3, q3, m3, d3, rfl, hsh, ho3⟩, hf3, hb3⟩
              have HX3 := hide_ (⟨hf3, hb3⟩ : _ ∧ _)
              have hr11 := heap_past (o' := (.cells #[.int .i64 0, .int .i64 0] 27)) (heap_alloc_last w3 (.cells #[.bool false, .slice none 0 0, .slice none 0 0] 32))
              have hr12 := row_other (cs := #[.bool s, .slice p3 n3 c3, .slice q3 m3 d3]) (heap_at1 w3 (.cells #[.bool false, .slice none 0 0, .slice none 0 0] 32) (.cells #[.int .i64 0, .int .i64 0] 27)) (show w3.heap.size + 1 ≠ w3.heap.size by omega)
              have hr11' := row_other (cs := #[.int .i64 0, .int .i64 0]) (setRow_heap _ _ _ #[.bool s, .slice p3 n3 c3, .slice q3 m3 d3] _ _ hr11) (show w3.heap.size ≠ w3.heap.size + 1 by omega)
              have hr12' := setRow_heap _ _ _ #[.int .i64 0, .int .i64 0] _ _ hr12
              obtain ⟨y0, y1⟩ := cells_two hr12'
              obtain ⟨y2, y3, y4⟩ := cells_three hr11'
              have hbA : Below w3.heap.size w3 ((((w3.alloc (.cells #[.bool false, .slice none 0 0, .slice none 0 0] 32)).alloc (.cells #[.int .i64 0, .int .i64 0] 27)).setRow w3.heap.size #[.bool s, .slice p3 n3 c3, .slice q3 m3 d3]).setRow (w3.heap.size + 1) #[.int .i64 0, .int .i64 0]) := below_setRow (below_setRow ((below_alloc _ _).alloc (by simp) _) (Nat.le_refl _) _) (by omega) _
              have hsz : ((((w3.alloc (.cells #[.bool false, .slice none 0 0, .slice none 0 0] 32)).alloc (.cells #[.int .i64 0, .int .i64 0] 27)).setRow w3.heap.size #[.bool s, .slice p3 n3 c3, .slice q3 m3 d3]).setRow (w3.heap.size + 1) #[.int .i64 0, .int .i64 0]).heap.size = w3.heap.size + 2 := by simp [World.setRow]
              have hr13 : (((((w3.alloc (.cells #[.bool false, .slice none 0 0, .slice none 0 0] 32)).alloc (.cells #[.int .i64 0, .int .i64 0] 27)).setRow w3.heap.size #[.bool s, .slice p3 n3 c3, .slice q3 m3 d3]).setRow (w3.heap.size + 1) #[.int .i64 0, .int .i64 0]).alloc (.cells #[.bool s, .slice p3 n3 c3, .slice q3 m3 d3] 32)).heap[w3.heap.size + 1 + 1]? = some (.cells #[.bool s, .slice p3 n3 c3, .slice q3 m3 d3] 32) := by
                have e : w3.heap.size + 1 + 1 = ((((w3.alloc (.cells #[.bool false, .slice none 0 0, .slice none 0 0] 32)).alloc (.cells #[.int .i64 0, .int .i64 0] 27)).setRow w3.heap.size #[.bool s, .slice p3 n3 c3, .slice q3 m3 d3]).setRow (w3.heap.size + 1) #[.int .i64 0, .int .i64 0]).heap.size := hsz.symm
                rw [e]
                exact heap_alloc_last _ _
              have HSZ := hide_ hsz
              have hbB := hbA.alloc (by rw [hsz]; omega) (.cells #[.bool s, .slice p3 n3 c3, .slice q3 m3 d3] 32)
              have HBB := hide_ hbB
              have hown := hide_ ((HO.out.below hb3).below hbB)
              have hl3 := hb3.size
              clear hsz hbA hbB hb3))
          | (at_builtin; go_must (refine wpList_push2 rfl _ _ 40 rfl w2.heap.size 32 i0 (.agg #[.bool false, .slice none 0 0, .slice none 0 0]) 3 56 Try.underlying40 hi hz0 hz1 hz2 rfl (by decide) (by decide) _ Z.length _ rfl hown.out.1 _ #[.bool s, .slice p3 n3 c3, .slice q3 m3 d3] 32 1 1 rfl hr13 rfl (by kernel_rfl) hkb (by have := HSZ.out; simp; omega) ?_; intro v' w5 ho5 hg5 hf5 hn5))
          | ((with_reducible apply wpList_store_new); (with_reducible rfl); (with_reducible rfl); rfl; rfl; kernel_rfl; rfl; kernel_rfl) | ((with_reducible apply wpList_store_blk); (with_reducible rfl); (with_reducible rfl); rfl; assumption; rfl; kernel_rfl; rfl; kernel_rfl))
        obtain ⟨rfl, rfl, rfl⟩ := hsh.out
        have hG5 := own_grew ((HW.out.step HX3.out.2).step HBB.out) hown.out.1 hg5
        have hO5 : OFs w5 w2.heap.size v' (Z ++ [⟨0, 0, false, x, p3, c3, q3, d3⟩]) := hown.out.push (z := ⟨0, 0, false, x, p3, c3, q3, d3⟩) (ho3.below HBB.out) HO.out.2.below_B hl2 HX3.out.1 ho5 hg5
        refine ⟨⟨Z ++ [⟨0, 0, false, x, p3, c3, q3, d3⟩], by simp; omega, by simp, hO5, hide_ ?_, hide_ ?_, hG5⟩, ?_⟩
        · rw [List.map_append, HH.out, List.length_append]
          exact HH2.out.symm
        · rw [List.length_append]
          exact HG2.out
        · simp [intOf]
          omega
      · have HA := hide_ (HAN.out (t1 + (Z.length : Int)) wr HBW.out hA)
        have HE := hide_ (curveE_step hk1 HG0.out hA)
        have b3 : ((atQ L (t1 + (Z.length : Int))).2 != 0) = true := by simpa using hA
        have HNE := hide_ hA
        clear HAO HAN hA
        generalize (atQ L (t1 + (Z.length : Int))).2 = er at *
        go_wp2_with (first
          | (go_at_call 54; go_must (
              (with_reducible refine (HA.out).mono ?_)
              rintro e w3 ⟨rfl, hb3⟩
              have hr11 := heap_past (o' := (.cells #[.int .i64 0, .int .i64 0] 27)) (heap_alloc_last w3 (.cells #[.bool false, .slice none 0 0, .slice none 0 0] 32))
              have hr12 := row_other (cs := #[.bool false, .slice none 0 0, .slice none 0 0]) (heap_at1 w3 (.cells #[.bool false, .slice none 0 0, .slice none 0 0] 32) (.cells #[.int .i64 0, .int .i64 0] 27)) (show w3.heap.size + 1 ≠ w3.heap.size by omega)
              have hr12' := setRow_heap _ _ _ #[.int .i64 er, .int .i64 (-1)] _ _ hr12
              have hl3 := hb3.size
              have hrr := row_other (cs := #[.int .i64 er, .int .i64 (-1)]) (row_other (cs := #[.bool false, .slice none 0 0, .slice none 0 0]) (heap_past (o' := (.cells #[.int .i64 0, .int .i64 0] 27)) (heap_past (o' := (.cells #[.bool false, .slice none 0 0, .slice none 0 0] 32)) ((hb3.block _ (lt_of_heap HRR.out)).trans HRR.out))) (show w.heap.size ≠ w3.heap.size by omega)) (show w.heap.size ≠ w3.heap.size + 1 by omega)
              have hbw3 : Below w.heap.size w w3 := HBW.out.trans (hb3.mono HBW.out.size)
              have hbA : Below w.heap.size w ((((w3.alloc (.cells #[.bool false, .slice none 0 0, .slice none 0 0] 32)).alloc (.cells #[.int .i64 0, .int .i64 0] 27)).setRow w3.heap.size #[.bool false, .slice none 0 0, .slice none 0 0]).setRow (w3.heap.size + 1) #[.int .i64 er, .int .i64 (-1)]) := below_setRow (below_setRow ((hbw3.alloc hbw3.size _).alloc (by have := hbw3.size; simp; omega) _) hbw3.size _) (by have := hbw3.size; omega) _
              have HBA := hide_ hbA
              clear hbA
              obtain ⟨y0, y1⟩ := cells_two hr12'))
          | ((with_reducible apply wpList_store_new); (with_reducible rfl); (with_reducible rfl); rfl; rfl; kernel_rfl; rfl; kernel_rfl) | ((with_reducible apply wpList_store_blk); (with_reducible rfl); (with_reducible rfl); rfl; assumption; rfl; kernel_rfl; rfl; kernel_rfl))
        have hne2 : w3.heap.size + 1 ≠ w.heap.size := by omega
        obtain ⟨m0, m1⟩ := cells_two hrr
        obtain ⟨m3, m4⟩ := free_two hrr
        go_region_held3 (fun w' => w'.cell? ⟨w3.heap.size + 1, 0, none⟩ = some (.int .i64 er) ∧ w'.cell? ⟨w3.heap.size + 1, 1, none⟩ = some (.int .i64 (-1)))
          (first | (with_reducible exact ⟨(keep_set2d hne2).trans y0, (keep_set2d hne2).trans y1⟩) | (with_reducible exact ⟨(keep_set2 hne2).trans y0, (keep_set2 hne2).trans y1⟩) | (with_reducible exact ⟨y0, y1⟩) | go_keep)
          (fail)
        go_wp2
        rw [set2_row hrr]
        refine ret_tc rfl w.heap.size 27 #[.int .i64 er, .int .i64 (-1)] _ rfl (heap_drew (setRow_heap _ _ _ _ _ _ hrr)) Try.underlying27 rfl (by kernel_rfl) rfl ?_
        rw [HE.out]
        exact ⟨.inr ⟨HNE.out, rfl⟩, (below_setRow HBA.out (Nat.le_refl _) _).drew⟩
end Go.Proofs.Ytcibbnphkpaifaa
