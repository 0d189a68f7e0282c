/- SecondPieces: the walk. -/
import Derived.Test.YtcibbnphkpaifaaTn
namespace Go.Proofs.Ytcibbnphkpaifaa
open Go.RowKit
set_option linter.unusedVariables false
set_option maxRecDepth 100000
theorem wpList_appw {P : Program} {ops : Array Oper} {rest : List Oper} {o : Oper} {a : Act} {w w' : World} {v' : Value} {Q : Exit → Act → World → Prop} (hw : Region.wanted o (yielded ops a.tmps) = true) (s x : Operand) (t : TypeId)
    (ho : o.op = .call { callee := .builtin .append, args := #[s, x], argTypes := #[t, t] })
    (hr : (Builtin.append_ #[t, t] o.type #[a.eval s, a.eval x]).run P w = .ok v' w') (h : wpList P ops Q rest (a.put o.dst v') w') : wpList P ops Q (o :: rest) a w := by
  refine BigFrame.wpList_want hw fun K hK => ?_
  unfold Oper.wp
  simp [execOp, ho, resolve, invoke, builtin, hr, Result.andThen]
  exact hK _ _ h
theorem ResL.yes {f : FuncId} {args : Array Value} {W : World} {H : List Rat} (h : Calls Try.prog f args W (ResL W H 0)) : Calls Try.prog f args W fun e w' => (∃ p c Z, e = .returned (.tuple #[.slice p Z.length c, .agg #[.int .i64 0, .int .i64 0]]) ∧ OFs w' W.heap.size (.slice p Z.length c) Z ∧ Z.map Ze.h = H) ∧ Below W.heap.size W w' :=
  h.mono fun e w' h1 => ⟨by
    rcases h1.1 with ⟨_, v, Z, rfl, ho, hh⟩ | ⟨h2, _⟩
    · obtain ⟨p, c, rfl⟩ := row_slice ho.1
      exact ⟨p, c, Z, rfl, ho, hh⟩
    · exact absurd rfl h2, h1.2⟩
theorem ResL.no {f : FuncId} {args : Array Value} {W : World} {H : List Rat} {er : Int} (hne : er ≠ 0) (h : Calls Try.prog f args W (ResL W H er)) : Calls Try.prog f args W (ResN W er (-1)) :=
  h.mono fun e w' h1 => ⟨by
    rcases h1.1 with ⟨h2, _⟩ | ⟨_, h2⟩
    · exact absurd h2 hne
    · exact h2, h1.2⟩
theorem pick_gap {a b m : Int} (h : a ≤ b) : 0 ≤ pickN m (b - a + 1) ∧ pickN m (b - a + 1) ≤ b - a := by
  have := pickN_range m (b - a + 1) (by omega)
  omega
set_option maxHeartbeats 3200000 in
theorem check_nil (p : Option Addr) (c : Nat) (w : World) : Calls Try.prog 13 #[.slice p 0 c] w fun e w' => e = .returned (.agg #[.int .i64 0, .int .i64 0]) ∧ Below w.heap.size w w' := by
  have hb0 : Below w.heap.size w (w.alloc (.cells #[.int .i64 0, .int .i64 0] 27)) := below_alloc _ _
  have hr0 := heap_alloc_last w (.cells #[.int .i64 0, .int .i64 0] 27)
  go_enter Try.func13, Try.ntmps13
  go_wp2
  go_loopw [3, 12] (fun a i wr => a = .pointer none ∧ i = .int .i64 0 ∧ wr = w.alloc (.cells #[.int .i64 0, .int .i64 0] 27)) (fun _ _ _ => 0)
  case atStart => exact ⟨rfl, rfl, rfl⟩
  case round =>
    obtain ⟨rfl, rfl, rfl⟩ := hrel
    go_wp2_with ((with_reducible apply wpList_store_blk); (with_reducible rfl); (with_reducible rfl); rfl; assumption; rfl; kernel_rfl; rfl; kernel_rfl)
    refine ret_c rfl w.heap.size 27 _ _ rfl (setRow_heap _ _ _ _ _ _ hr0) Try.underlying27 rfl (by kernel_rfl) rfl ?_
    exact ⟨rfl, below_setRow hb0 (Nat.le_refl _) _⟩
set_option maxHeartbeats 12800000 in
theorem curve_nil (p : Option Addr) (c : Nat) (t1 t2 : Int) (m : Nat) (L : List Wt) (w : World) (hL : L = []) (b1 : -9223372036854775808 ≤ t1 ∧ t1 < 9223372036854775808) (b2 : -9223372036854775808 ≤ t2 ∧ t2 < 9223372036854775808) (hm : t2 = t1 + (m : Int)) (hm2 : m ≤ 4096) :
    Calls Try.prog 17 #[.slice p 0 c, .int .i64 t1, .int .i64 t2] w (ResL w (curveH L t1 m) (curveE L t1 m)) := by
  have HK := hide_ (fun W (h : Below w.heap.size w W) => check_nil p c W)
  have h6 : ∀ t, atQ L t = (0, 6) := fun t => by subst hL; rfl
  have HAO : Hid (∀ t W, Below w.heap.size w W → (atQ L t).2 = 0 → Calls Try.prog 54 #[.slice p 0 c, .int .i64 t] W fun e w' => (∃ s p n c q m d, e = .returned (.tuple #[.agg #[.bool s, .slice p n c, .slice q m d], .agg #[.int .i64 0, .int .i64 0]]) ∧ Hid (s = rneg (atQ L t).1 ∧ n = (rn (atQ L t).1).length ∧ m = (rd (atQ L t).1).length) ∧ RO w' W.heap.size (.agg #[.bool s, .slice p n c, .slice q m d]) (atQ L t).1) ∧ Fits (atQ L t).1 ∧ Below W.heap.size W w') := hide_ (fun t W _ h0 => absurd h0 (by rw [h6]; decide))
  have HAN : Hid (∀ t W, Below w.heap.size w W → (atQ L t).2 ≠ 0 → Calls Try.prog 54 #[.slice p 0 c, .int .i64 t] W fun e w' => e = .returned (.tuple #[.agg #[.bool false, .slice none 0 0, .slice none 0 0], .agg #[.int .i64 (atQ L t).2, .int .i64 (-1)]]) ∧ Below W.heap.size W w') := hide_ (fun t W _ _ => by rw [h6]; exact at_nil p c t W)
  clear h6 hL
  have hb0 : Below w.heap.size w (w.alloc (.cells #[.int .i64 0, .int .i64 0] 27)) := below_alloc _ _
  have HR2 := hide_ (heap_alloc_last w (.cells #[.int .i64 0, .int .i64 0] 27))
  have z1 : decide (t2 < t1) = false := decide_eq_false (by omega)
  have z2 : decide (4096 < IntKind.u64.wrap (IntKind.u64.wrap t2 - IntKind.u64.wrap t1)) = false := decide_eq_false (by rw [w64, w64, w64]; omega)
  obtain ⟨i0, hi, hz0, hz1, hz2⟩ := info_parts info_R
  have HM := hide_ hm
  clear hm
  go_enter Try.func17, Try.ntmps17
  go_wp2_with (first
    | (go_at_call 13; go_must (
        (with_reducible refine (HK.out _ hb0).mono ?_)
        rintro e w1 ⟨rfl, hb1⟩
        have r2 := heap_past (o' := .cells #[.int .i64 0, .int .i64 0] 27) ((hb1.block _ (lt_of_heap HR2.out)).trans HR2.out)
        have hb2 : Below w.heap.size w (w1.alloc (.cells #[.int .i64 0, .int .i64 0] 27)) := (hb0.trans (hb1.mono hb0.size)).alloc (hb0.trans (hb1.mono hb0.size)).size _
        obtain ⟨x0, x1⟩ := cells_two (heap_alloc_last w1 (.cells #[.int .i64 0, .int .i64 0] 27))))
    | ((with_reducible apply wpList_store_new); (with_reducible rfl); (with_reducible rfl); rfl; rfl; kernel_rfl; rfl; kernel_rfl) | ((with_reducible apply wpList_store_blk); (with_reducible rfl); (with_reducible rfl); rfl; assumption; rfl; kernel_rfl; rfl; kernel_rfl))
  clear x0 x1 z2 z1
  have HR := hide_ r2
  have hlt := lt_of_heap r2
  clear r2 hb1
  generalize (w1.alloc (.cells #[.int .i64 0, .int .i64 0] 27)) = w2 at *
  have HB2 := hide_ hb2
  clear hb2 hb0
  go_loopw [9, 10] (fun ov tv wr => ∃ Z, Z.length ≤ m ∧ tv = .int .i64 (t1 + (Z.length : Int)) ∧ OFs wr w2.heap.size ov Z ∧ Hid (Z.map Ze.h = curveH L t1 Z.length) ∧ Hid (∀ i : Nat, i < Z.length → (atQ L (t1 + (i : Int))).2 = 0) ∧ Grew w2.heap.size w2 wr) (fun _ tv _ => m - (intOf tv - t1).toNat)
  case atStart => exact ⟨[], Nat.zero_le _, by simp, OFs.nil _ _, hide_ rfl, hide_ (fun i h => by simp at h), Grew.refl _⟩
  case round =>
    obtain ⟨Z, hk, rfl, hO, HH, HG0, hgr⟩ := hrel
    obtain ⟨p', c', rfl⟩ := row_slice hO.1
    have hbw : Below w.heap.size w wr := HB2.out.trans (hgr.below.mono HB2.out.size)
    have hrr : wr.heap[w.heap.size]? = some (.cells #[.int .i64 0, .int .i64 0] 27) := (hgr.below.block _ hlt).trans HR.out
    have HW := hide_ hgr
    have HBW := hide_ hbw
    have HRR := hide_ hrr
    have HO := hide_ hO
    have hl2 : w2.heap.size ≤ wr.heap.size := hgr.2
    have HM2 := hide_ (show t2 = t1 + (m : Int) from HM.out)
    clear hgr hbw hrr hO
    by_cases h0 : Z.length = m
    · subst h0
      have HE := hide_ (curveE_zero HG0.out)
      have d1 : decide (t1 + (Z.length : Int) < t2) = false := decide_eq_false (by rw [HM2.out]; omega)
      clear HAO HAN
      have hrr := HRR.out
      go_wp2_with ((with_reducible apply wpList_store_blk); (with_reducible rfl); (with_reducible rfl); rfl; assumption; rfl; kernel_rfl; rfl; kernel_rfl)
      refine ret_tc rfl w.heap.size 27 _ _ rfl (setRow_heap _ _ _ _ _ _ hrr) Try.underlying27 rfl (by kernel_rfl) rfl ?_
      have hfin : w.heap.size < w2.heap.size := hlt
      have hset : Below w2.heap.size wr (wr.setRow w.heap.size #[.int .i64 0, .int .i64 0]) → True := fun _ => trivial
      refine ⟨.inl ⟨HE.out, _, Z, rfl, ?_, HH.out⟩, below_setRow HBW.out (Nat.le_refl _) _⟩
      refine ⟨?_, ?_⟩
      · have h1 := HO.out.1
        refine ownsRow_base_a (h1.kept (grown_setRow _ w.heap.size _) ?_) (Nat.le_of_lt hlt)
        cases ho : (Value.slice p' Z.length c').ownBlock with
        | none => exact .inl rfl
        | some j => exact .inr (fun e => by injection e with e; subst e; have := (World.ownsRow.lt h1 _ ho).1; omega)
      · refine ⟨fun z hz => ⟨?_, (HO.out.2.1 z hz).2⟩, HO.out.2.2⟩
        exact (((HO.out.2.1 z hz).1.stored (W := w) hlt).mono (Nat.le_of_lt hlt))
    · have hk1 : Z.length < m := by omega
      have d1 : decide (t1 + (Z.length : Int) < t2) = true := decide_eq_true (by rw [HM2.out]; omega)
      have hw1 : IntKind.i64.wrap (t1 + (Z.length : Int) + 1) = t1 + ((Z.length + 1 : Nat) : Int) := by have := HM2.out; rw [IntWalk.i64_in _ (by omega)]; omega
      by_cases hA : (atQ L (t1 + (Z.length : Int))).2 = 0
      · have HA := hide_ (HAO.out (t1 + (Z.length : Int)) wr HBW.out hA)
        have HH2 := hide_ (curveH_succ L t1 Z.length)
        have HG2 := hide_ (show ∀ i : Nat, i < Z.length + 1 → (atQ L (t1 + (i : Int))).2 = 0 from fun i hi => by
          by_cases e : i = Z.length
          · subst e; exact hA
          · exact HG0.out i (by omega))
        clear HAO HAN hA
        generalize (atQ L (t1 + (Z.length : Int))).1 = x at *
        have hkb : (Z.length + 1) * 56 ≤ 140737488355328 := by omega
        go_wp2_with (first
          | (go_at_call 54; go_must (
              (with_reducible refine (HA.out).mono ?_)
              rintro e w3 ⟨⟨s, p3, n3, c3, q3, m3, d3, rfl, hsh, ho3⟩, hf3, hb3⟩
              have HX3 := hide_ (⟨hf3, hb3⟩ : _ ∧ _)
              have hr11 := heap_past (o' := (.cells #[.int .i64 0, .int .i64 0] 27)) (heap_alloc_last w3 (.cells #[.bool false, .slice none 0 0, .slice none 0 0] 32))
              have hr12 := row_other (cs := #[.bool s, .slice p3 n3 c3, .slice q3 m3 d3]) (heap_at1 w3 (.cells #[.bool false, .slice none 0 0, .slice none 0 0] 32) (.cells #[.int .i64 0, .int .i64 0] 27)) (show w3.heap.size + 1 ≠ w3.heap.size by omega)
              have hr11' := row_other (cs := #[.int .i64 0, .int .i64 0]) (setRow_heap _ _ _ #[.bool s, .slice p3 n3 c3, .slice q3 m3 d3] _ _ hr11) (show w3.heap.size ≠ w3.heap.size + 1 by omega)
              have hr12' := setRow_heap _ _ _ #[.int .i64 0, .int .i64 0] _ _ hr12
              obtain ⟨y0, y1⟩ := cells_two hr12'
              obtain ⟨y2, y3, y4⟩ := cells_three hr11'
              have hbA : Below w3.heap.size w3 ((((w3.alloc (.cells #[.bool false, .slice none 0 0, .slice none 0 0] 32)).alloc (.cells #[.int .i64 0, .int .i64 0] 27)).setRow w3.heap.size #[.bool s, .slice p3 n3 c3, .slice q3 m3 d3]).setRow (w3.heap.size + 1) #[.int .i64 0, .int .i64 0]) := below_setRow (below_setRow ((below_alloc _ _).alloc (by simp) _) (Nat.le_refl _) _) (by omega) _
              have hsz : ((((w3.alloc (.cells #[.bool false, .slice none 0 0, .slice none 0 0] 32)).alloc (.cells #[.int .i64 0, .int .i64 0] 27)).setRow w3.heap.size #[.bool s, .slice p3 n3 c3, .slice q3 m3 d3]).setRow (w3.heap.size + 1) #[.int .i64 0, .int .i64 0]).heap.size = w3.heap.size + 2 := by simp [World.setRow]
              have hr13 : (((((w3.alloc (.cells #[.bool false, .slice none 0 0, .slice none 0 0] 32)).alloc (.cells #[.int .i64 0, .int .i64 0] 27)).setRow w3.heap.size #[.bool s, .slice p3 n3 c3, .slice q3 m3 d3]).setRow (w3.heap.size + 1) #[.int .i64 0, .int .i64 0]).alloc (.cells #[.bool s, .slice p3 n3 c3, .slice q3 m3 d3] 32)).heap[w3.heap.size + 1 + 1]? = some (.cells #[.bool s, .slice p3 n3 c3, .slice q3 m3 d3] 32) := by
                have e : w3.heap.size + 1 + 1 = ((((w3.alloc (.cells #[.bool false, .slice none 0 0, .slice none 0 0] 32)).alloc (.cells #[.int .i64 0, .int .i64 0] 27)).setRow w3.heap.size #[.bool s, .slice p3 n3 c3, .slice q3 m3 d3]).setRow (w3.heap.size + 1) #[.int .i64 0, .int .i64 0]).heap.size := hsz.symm
                rw [e]
                exact heap_alloc_last _ _
              have HSZ := hide_ hsz
              have hbB := hbA.alloc (by rw [hsz]; omega) (.cells #[.bool s, .slice p3 n3 c3, .slice q3 m3 d3] 32)
              have HBB := hide_ hbB
              have hown := hide_ ((HO.out.below hb3).below hbB)
              have hl3 := hb3.size
              clear hsz hbA hbB hb3))
          | (at_builtin; go_must (refine wpList_push2 rfl _ _ 40 rfl w2.heap.size 32 i0 (.agg #[.bool false, .slice none 0 0, .slice none 0 0]) 3 56 Try.underlying40 hi hz0 hz1 hz2 rfl (by decide) (by decide) _ Z.length _ rfl hown.out.1 _ #[.bool s, .slice p3 n3 c3, .slice q3 m3 d3] 32 1 1 rfl hr13 rfl (by kernel_rfl) hkb (by have := HSZ.out; simp; omega) ?_; intro v' w5 ho5 hg5 hf5 hn5))
          | ((with_reducible apply wpList_store_new); (with_reducible rfl); (with_reducible rfl); rfl; rfl; kernel_rfl; rfl; kernel_rfl) | ((with_reducible apply wpList_store_blk); (with_reducible rfl); (with_reducible rfl); rfl; assumption; rfl; kernel_rfl; rfl; kernel_rfl))
        obtain ⟨rfl, rfl, rfl⟩ := hsh.out
        have hG5 := own_grew ((HW.out.step HX3.out.2).step HBB.out) hown.out.1 hg5
        have hO5 : OFs w5 w2.heap.size v' (Z ++ [⟨0, 0, false, x, p3, c3, q3, d3⟩]) := hown.out.push (z := ⟨0, 0, false, x, p3, c3, q3, d3⟩) (ho3.below HBB.out) HO.out.2.below_B hl2 HX3.out.1 ho5 hg5
        refine ⟨⟨Z ++ [⟨0, 0, false, x, p3, c3, q3, d3⟩], by simp; omega, by simp, hO5, hide_ ?_, hide_ ?_, hG5⟩, ?_⟩
        · rw [List.map_append, HH.out, List.length_append]
          exact HH2.out.symm
        · rw [List.length_append]
          exact HG2.out
        · simp [intOf]
          omega
      · have HA := hide_ (HAN.out (t1 + (Z.length : Int)) wr HBW.out hA)
        have HE := hide_ (curveE_step hk1 HG0.out hA)
        have b3 : ((atQ L (t1 + (Z.length : Int))).2 != 0) = true := by simpa using hA
        have HNE := hide_ hA
        clear HAO HAN hA
        generalize (atQ L (t1 + (Z.length : Int))).2 = er at *
        go_wp2_with (first
          | (go_at_call 54; go_must (
              (with_reducible refine (HA.out).mono ?_)
              rintro e w3 ⟨rfl, hb3⟩
              have hr11 := heap_past (o' := (.cells #[.int .i64 0, .int .i64 0] 27)) (heap_alloc_last w3 (.cells #[.bool false, .slice none 0 0, .slice none 0 0] 32))
              have hr12 := row_other (cs := #[.bool false, .slice none 0 0, .slice none 0 0]) (heap_at1 w3 (.cells #[.bool false, .slice none 0 0, .slice none 0 0] 32) (.cells #[.int .i64 0, .int .i64 0] 27)) (show w3.heap.size + 1 ≠ w3.heap.size by omega)
              have hr12' := setRow_heap _ _ _ #[.int .i64 er, .int .i64 (-1)] _ _ hr12
              have hl3 := hb3.size
              have hrr := row_other (cs := #[.int .i64 er, .int .i64 (-1)]) (row_other (cs := #[.bool false, .slice none 0 0, .slice none 0 0]) (heap_past (o' := (.cells #[.int .i64 0, .int .i64 0] 27)) (heap_past (o' := (.cells #[.bool false, .slice none 0 0, .slice none 0 0] 32)) ((hb3.block _ (lt_of_heap HRR.out)).trans HRR.out))) (show w.heap.size ≠ w3.heap.size by omega)) (show w.heap.size ≠ w3.heap.size + 1 by omega)
              have hbw3 : Below w.heap.size w w3 := HBW.out.trans (hb3.mono HBW.out.size)
              have hbA : Below w.heap.size w ((((w3.alloc (.cells #[.bool false, .slice none 0 0, .slice none 0 0] 32)).alloc (.cells #[.int .i64 0, .int .i64 0] 27)).setRow w3.heap.size #[.bool false, .slice none 0 0, .slice none 0 0]).setRow (w3.heap.size + 1) #[.int .i64 er, .int .i64 (-1)]) := below_setRow (below_setRow ((hbw3.alloc hbw3.size _).alloc (by have := hbw3.size; simp; omega) _) hbw3.size _) (by have := hbw3.size; omega) _
              have HBA := hide_ hbA
              clear hbA
              obtain ⟨y0, y1⟩ := cells_two hr12'))
          | ((with_reducible apply wpList_store_new); (with_reducible rfl); (with_reducible rfl); rfl; rfl; kernel_rfl; rfl; kernel_rfl) | ((with_reducible apply wpList_store_blk); (with_reducible rfl); (with_reducible rfl); rfl; assumption; rfl; kernel_rfl; rfl; kernel_rfl))
        have hne2 : w3.heap.size + 1 ≠ w.heap.size := by omega
        obtain ⟨m0, m1⟩ := cells_two hrr
        obtain ⟨m3, m4⟩ := free_two hrr
        go_region_held3 (fun w' => w'.cell? ⟨w3.heap.size + 1, 0, none⟩ = some (.int .i64 er) ∧ w'.cell? ⟨w3.heap.size + 1, 1, none⟩ = some (.int .i64 (-1)))
          (first | (with_reducible exact ⟨(keep_set2d hne2).trans y0, (keep_set2d hne2).trans y1⟩) | (with_reducible exact ⟨(keep_set2 hne2).trans y0, (keep_set2 hne2).trans y1⟩) | (with_reducible exact ⟨y0, y1⟩) | go_keep)
          (fail)
        go_wp2
        rw [set2_row hrr]
        refine ret_tc rfl w.heap.size 27 #[.int .i64 er, .int .i64 (-1)] _ rfl (heap_drew (setRow_heap _ _ _ _ _ _ hrr)) Try.underlying27 rfl (by kernel_rfl) rfl ?_
        rw [HE.out]
        exact ⟨.inr ⟨HNE.out, rfl⟩, (below_setRow HBA.out (Nat.le_refl _) _).drew⟩
set_option maxHeartbeats 12800000 in
theorem pieces_ok (p : Option Addr) (n c : Nat) (a m b : Int) (L : List Wt) (w : World) (hn : n = L.length) (h2 : n ≤ 200) (hp : WSr w p L) (hlo : longW L = false) (HCU : ∀ (x y : Int) (k : Nat) W, Below w.heap.size w W → (-9223372036854775808 ≤ x ∧ x < 9223372036854775808) → (-9223372036854775808 ≤ y ∧ y < 9223372036854775808) → y = x + (k : Int) → k ≤ 4096 → Calls Try.prog 17 #[.slice p n c, .int .i64 x, .int .i64 y] W (ResL W (curveH L x k) (curveE L x k))) (h1 : a ≤ b) (hg : b - a ≤ 60) (ha : -9223372036854775808 ≤ a ∧ a < 9223372036854775808) (hb : -9223372036854775808 ≤ b ∧ b < 9223372036854775808) (hm1 : -9223372036854775808 ≤ m) (hm2 : m < 9223372036854775808)
    (he : curveE L a (b - a).toNat = 0) :
    Calls Try.prog 4 #[.slice p n c, .int .i64 a, .int .i64 m, .int .i64 b] w fun e w' => e = .returned (.bool true) ∧ Below w.heap.size w w' := by
  obtain ⟨hk1, hk2⟩ := pick_gap (m := m) h1
  obtain ⟨k, hk⟩ : ∃ k : Nat, pickN m (b - a + 1) = (k : Int) := ⟨(pickN m (b - a + 1)).toNat, by omega⟩
  obtain ⟨j, hj⟩ : ∃ j : Nat, b - a = ((k + j : Nat) : Int) := ⟨(b - a - k).toNat, by omega⟩
  have hkj : (b - a).toNat = k + j := by omega
  rw [hkj] at he
  obtain ⟨he1, he2⟩ := curveE_split k j he
  have hsp := curveH_split L a k j
  have HA := hide_ (fun W => awake_any W)
  have HL := hide_ (fun W (h : Below w.heap.size w W) => LongWaters_any p n c L W hn (hp.below h) (by omega))
  rw [hlo] at HL
  have HC1 := hide_ (fun W (h : Below w.heap.size w W) => HCU a b (k + j) W h ha hb (by omega) (by omega))
  have HC2 := hide_ (fun W (h : Below w.heap.size w W) => HCU a (a + (k : Int)) k W h ha (by omega) rfl (by omega))
  have HC3 := hide_ (fun W (h : Below w.heap.size w W) => HCU (a + (k : Int)) b j W h (by omega) hb (by omega) (by omega))
  rw [he] at HC1
  rw [he1] at HC2
  rw [he2] at HC3
  have HD1 := hide_ (fun W (h : Below w.heap.size w W) => ResL.yes (HC1.out W h))
  have HD2 := hide_ (fun W (h : Below w.heap.size w W) => ResL.yes (HC2.out W h))
  have HD3 := hide_ (fun W (h : Below w.heap.size w W) => ResL.yes (HC3.out W h))
  clear HC1 HC2 HC3
  have HPK := hide_ (fun W => Pick_any m (b - a + 1) W (by omega) (by omega) hm1 hm2)
  rw [hk] at HPK
  have z1 : decide ((200 : Int) < (n : Int)) = false := decide_eq_false (by omega)
  have z2 : decide (b < a) = false := decide_eq_false (by omega)
  have z3 : decide (60 < IntKind.u64.wrap (IntKind.u64.wrap b - IntKind.u64.wrap a)) = false := decide_eq_false (by rw [u64_gap h1 ha.1 hb.2]; omega)
  have hw1 : IntKind.i64.wrap (b - a) = b - a := IntWalk.i64_in _ (by omega)
  have hw2 : IntKind.i64.wrap (b - a + 1) = b - a + 1 := IntWalk.i64_in _ (by omega)
  have hw3 : IntKind.i64.wrap (a + (k : Int)) = a + (k : Int) := IntWalk.i64_in _ (by omega)
  have q1' : -9223372036854775808 ≤ a + (k : Int) := by omega
  have q2' : a + (k : Int) < 9223372036854775808 := by omega
  have HSP := hide_ hsp
  have HLY := hide_ (show (curveH L a k).length = k from by simp [curveH])
  have HLU := hide_ (show (curveH L (a + (k : Int)) j).length = j from by simp [curveH])
  have HK := hide_ (show k ≤ 60 ∧ j ≤ 60 from ⟨by omega, by omega⟩)
  obtain ⟨i0, hi, hz0, hz1, hz2⟩ := info_parts info_R
  clear hk1 hk2 hk hj hkj he he1 he2 hsp hp hn h2 hlo HCU h1 hg ha hb hm1 hm2
  generalize curveH L a (k + j) = X at *
  generalize curveH L a k = Y at *
  generalize curveH L (a + (k : Int)) j = U at *
  have tokA : True := trivial
  have tokB : True := trivial
  go_enter Try.func4, Try.ntmps4
  go_upto_region 10 with (first
    | (go_at_call 11; go_must ((with_reducible refine (HA.out _).mono ?_); rintro e w1 ⟨rfl, hb1⟩))
    | (go_at_call 12; go_must ((with_reducible refine (HL.out _ hb1).mono ?_); rintro e w2 ⟨rfl, hb2⟩; have hb3 := hb1.trans (hb2.mono hb1.size)))
    | (go_at_call 17; have _t := tokA; go_must (
        (with_reducible refine (HD1.out _ hb3).mono ?_)
        rintro e w4 ⟨⟨q1, c1, Z1, rfl, ho1, hh_w4⟩, hb4⟩
        have hb5 : Below w.heap.size w (w4.alloc (.cells #[.int .i64 0, .int .i64 0] 27)) := (hb3.trans (hb4.mono hb3.size)).alloc (hb3.trans (hb4.mono hb3.size)).size _
        have hr_w4 := heap_alloc_last w4 (.cells #[.int .i64 0, .int .i64 0] 27)
        have hl_w4 := hide_ (below_alloc w4 (.cells #[.int .i64 0, .int .i64 0] 27))
        obtain ⟨x0, x1⟩ := cells_two hr_w4
        clear tokA))
    | (go_at_call 14; go_must ((with_reducible refine (HPK.out _).mono ?_); rintro e w5 ⟨rfl, rfl⟩))
    | (go_at_call 17; have _t := tokB; go_must (
        (with_reducible refine (HD2.out _ hb5).mono ?_)
        rintro e w6 ⟨⟨q2, c2, Z2, rfl, ho2, hh_w6⟩, hb6⟩
        have hb7 : Below w.heap.size w (w6.alloc (.cells #[.int .i64 0, .int .i64 0] 27)) := (hb5.trans (hb6.mono hb5.size)).alloc (hb5.trans (hb6.mono hb5.size)).size _
        have hr_w6 := heap_alloc_last w6 (.cells #[.int .i64 0, .int .i64 0] 27)
        have hl_w6 := hide_ (below_alloc w6 (.cells #[.int .i64 0, .int .i64 0] 27))
        obtain ⟨y0, y1⟩ := cells_two hr_w6
        clear tokB))
    | (go_at_call 17; go_must (
        (with_reducible refine (HD3.out _ hb7).mono ?_)
        rintro e w8 ⟨⟨q3, c3, Z3, rfl, ho3, hh_w8⟩, hb8⟩
        have hb9 : Below w.heap.size w (w8.alloc (.cells #[.int .i64 0, .int .i64 0] 27)) := (hb7.trans (hb8.mono hb7.size)).alloc (hb7.trans (hb8.mono hb7.size)).size _
        have hr_w8 := heap_alloc_last w8 (.cells #[.int .i64 0, .int .i64 0] 27)
        have hl_w8 := hide_ (below_alloc w8 (.cells #[.int .i64 0, .int .i64 0] 27))
        obtain ⟨u0, u1⟩ := cells_two hr_w8))
    | ((with_reducible apply wpList_store_new); (with_reducible rfl); (with_reducible rfl); rfl; rfl; kernel_rfl; rfl; kernel_rfl))
  have hc6' := heap_past (o' := (.cells #[.int .i64 0, .int .i64 0] 27)) ((hb8.block _ (lt_of_heap hr_w6)).trans hr_w6)
  obtain ⟨k0, k1⟩ := cells_two hc6'
  obtain ⟨k2, k3⟩ := cells_two hr_w8
  have o1 := hide_ (((((ho1.below hl_w4.out).below hb6).below hl_w6.out).below hb8).below hl_w8.out)
  have o2 := hide_ ((((ho2.below hl_w6.out).below hb8).below hl_w8.out).rws)
  have o3 := hide_ ((ho3.below hl_w8.out).rws)
  have hl2 : Z2.length ≤ 60 := by
    have h1 := congrArg List.length hh_w6
    rw [List.length_map, HLY.out] at h1
    have := HK.out
    omega
  have hl3 : Z3.length ≤ 60 := by
    have h1 := congrArg List.length hh_w8
    rw [List.length_map, HLU.out] at h1
    have := HK.out
    omega
  have hl1 : Z1.length ≤ 1000 := by
    have h1 := congrArg List.length hh_w4
    rw [List.length_map, HSP.out, List.length_append, HLY.out, HLU.out] at h1
    have := HK.out
    omega
  have HEQ := hide_ (show Z1.map Ze.h = (Z2 ++ Z3).map Ze.h from by rw [List.map_append, hh_w4, hh_w6, hh_w8, HSP.out])
  have HB9 := hide_ hb9
  clear hh_w4 hh_w6 hh_w8 hr_w4 hr_w6 hr_w8 hl_w4 hl_w6 hl_w8 hc6' ho1 ho2 ho3 hb1 hb2 hb3 hb4 hb5 hb6 hb7 hb8 hb9 q1' q2' hw1 hw2 hw3 z1 z2 z3
  generalize (w8.alloc (.cells #[.int .i64 0, .int .i64 0] 27)) = V0 at *
  have bA := below_alloc V0 (.cells #[] 32)
  have e0 : RWs (V0.alloc (.cells #[] 32)) V0.heap.size (.slice (some ⟨V0.heap.size, 0, none⟩) 0 0) [] := ⟨row_lit V0 V0.heap.size 32 3 0 #[] (Nat.le_refl _) rfl (Nat.zero_le _), by simp⟩
  obtain ⟨v5, w10, hr5, r5, g5⟩ := RWs.app (ty := 40) hi hz0 hz1 hz2 e0 (by simp) (o2.out.below bA) (by simp; omega)
  rw [List.nil_append] at r5
  have G5 : Grew V0.heap.size V0 w10 := own_grew (Grew.of bA) e0.1 g5
  obtain ⟨v6, w11, hr6, r6, g6⟩ := RWs.app (ty := 40) hi hz0 hz1 hz2 r5 G5.2 (o3.out.below G5.below) (by omega)
  have G6 : Grew V0.heap.size V0 w11 := own_grew G5 r5.1 g6
  obtain ⟨p6, c6, rfl⟩ := row_slice r6.1
  have hlen : (Z2 ++ Z3).length ≤ 1000 := by rw [List.length_append]; omega
  have hSA := ksames_any q1 p6 Z1.length (Z2 ++ Z3).length c1 c6 (Z1.map Ze.h) ((Z2 ++ Z3).map Ze.h) w11 (by simp) (by simp) ((o1.out.below G6.below).frs) r6.frs (by omega)
  rw [HEQ.out, decide_eq_true rfl] at hSA
  have HSA := hide_ hSA
  have HR5 := hide_ hr5
  have HR6 := hide_ hr6
  have HG6 := hide_ G6
  clear hSA hr5 hr6 r5 r6 g5 g6 G5 G6 e0 bA hl1 hl2 hl3 hlen HEQ
  generalize (Z2 ++ Z3).length = n6 at *
  have tokC : True := trivial
  go_wp2_with (first
    | (at_builtin; have _t := tokC; refine wpList_appw (by rfl) _ _ 40 rfl HR5.out ?_; clear tokC)
    | (at_builtin; go_must (refine wpList_appw (by rfl) _ _ 40 rfl HR6.out ?_))
    | (go_at_call 18; go_must ((with_reducible refine (HSA.out).mono ?_); rintro e w12 ⟨rfl, hb12⟩)))
  go_ret
  exact ⟨by simp, HB9.out.trans ((HG6.out.below.trans (hb12.mono HG6.out.2)).mono HB9.out.size)⟩
theorem pieces_walk (p : Option Addr) (len cap : Nat) (L : List Wt) (a m b : Int) (W : World) (hS : len = L.length ∧ len ≤ cap ∧ cap ≤ maxLen ∧ WSr W p L ∧ ∀ x ∈ L, (-9223372036854775808 ≤ x.t ∧ x.t < 9223372036854775808) ∧ -9223372036854775808 ≤ x.l ∧ x.l < 9223372036854775808) (wa : (Lit.int .i64 a).wf = true) (wm : (Lit.int .i64 m).wf = true) (wb : (Lit.int .i64 b).wf = true) :
    Calls Try.prog 4 #[.slice p len cap, .int .i64 a, .int .i64 m, .int .i64 b] W fun e w' => e = .returned (.bool true) ∧ Below W.heap.size W w' := by
  obtain ⟨hl, _, _, hp, _⟩ := hS
  have ha := i64_of wa
  have hm := i64_of wm
  have hb := i64_of wb
  by_cases h1 : 200 < len
  · exact pieces_size p len cap a m b W h1
  · have HL := hide_ (fun W' (h : Below W.heap.size W W') => LongWaters_any p len cap L W' hl (hp.below h) (by omega))
    cases hlo : longW L
    · rw [hlo] at HL
      by_cases h2 : b < a
      · exact pieces_early p len cap a m b false W (by omega) HL (.inr (.inl ⟨rfl, decide_eq_true h2⟩))
      · have z2 : decide (b < a) = false := decide_eq_false h2
        by_cases h3 : 60 < b - a
        · exact pieces_early p len cap a m b false W (by omega) HL (.inr (.inr ⟨rfl, z2, decide_eq_true (by rw [u64_gap (by omega) ha.1 hb.2]; exact h3)⟩))
        · have z3 : decide (60 < IntKind.u64.wrap (IntKind.u64.wrap b - IntKind.u64.wrap a)) = false := decide_eq_false (by rw [u64_gap (by omega) ha.1 hb.2]; exact h3)
          have key : (checkW none 0 L).1 = 0 → ∀ (x y : Int) (k : Nat) W', Below W.heap.size W W' → (-9223372036854775808 ≤ x ∧ x < 9223372036854775808) → (-9223372036854775808 ≤ y ∧ y < 9223372036854775808) → y = x + (k : Int) → k ≤ 4096 → Calls Try.prog 17 #[.slice p len cap, .int .i64 x, .int .i64 y] W' (ResL W' (curveH L x k) (curveE L x k)) := fun hc x y k W' h bx by_ he hk => by
            rcases Nat.eq_zero_or_pos L.length with h0 | h0
            · rw [hl, h0]
              exact curve_nil p cap x y k L W' (List.eq_nil_of_length_eq_zero h0) bx by_ he hk
            · exact curve_ok p len cap x y k L W' hl ((hp.below h).wsl h0 hlo) (by omega) (snd_of hc) bx by_ he hk
          by_cases hc : (checkW none 0 L).1 = 0
          · by_cases he : curveE L a (b - a).toNat = 0
            · exact pieces_ok p len cap a m b L W hl (by omega) hp hlo (key hc) (by omega) (by omega) ha hb hm.1 hm.2 he
            · exact pieces_fault p len cap a m b _ (-1) W (by omega) HL z2 z3 (hide_ (fun W' h => ResL.no he (key hc a b (b - a).toNat W' h ha hb (by omega) (by omega)))) he
          · have h0 : 0 < L.length := by
              rcases Nat.eq_zero_or_pos L.length with h0 | h0
              · rw [List.eq_nil_of_length_eq_zero h0] at hc; exact absurd rfl hc
              · exact h0
            exact pieces_fault p len cap a m b _ _ W (by omega) HL z2 z3 (hide_ (fun W' h => curve_err p len cap a b _ _ L W' hl ((hp.below h).wsl h0 hlo) (by omega) rfl hc)) hc
    · rw [hlo] at HL
      exact pieces_early p len cap a m b true W (by omega) HL (.inl rfl)
end Go.Proofs.Ytcibbnphkpaifaa
