/- Contracts of package doodson: Speed, Print. -/
import Derived.Test.YtklhdpkofpkmjaaMap
import Derived.Laws.BytesString
namespace Go.Proofs.Ytklhdpkofpkmjaa
open Go.RowKit
theorem info5 : (Try.prog.info? 5).map (fun i => (i.zero, i.size, i.bytes)) = some (some (.int .u8 0), 1, 1) := by kernel_rfl
/-- The bytes of the first k numbers' text. -/
def pl (f : Nat → Int) : Nat → List Int
  | 0 => []
  | k + 1 => pl f k ++ ((if k = 3 then [46] else []) ++ [53 + f k])
theorem pl_len (f : Nat → Int) (k : Nat) : (pl f k).length ≤ 2 * k := by
  induction k with
  | zero => simp [pl]
  | succ k ih => simp only [pl, List.length_append]; split <;> simp <;> omega
theorem string_of {w : World} {base g cap : Nat} {ns : List Int} (h : w.ownsRow base 5 1 (.slice (some ⟨g, 0, none⟩) ns.length cap) ns.length (ns.map (Value.int .u8))) :
    (convert 124 9 (.slice (some ⟨g, 0, none⟩) ns.length cap)).run Try.prog w = .ok (.string (ns.foldl (fun r n => r.push (UInt8.ofNat n.toNat)) ByteArray.empty)) w := by
  rw [run_convert_bytes_string w 124 9 5 _ _ _ Try.underlying124 Try.underlying5 Try.underlying9]
  refine run_bytesToString w ⟨g, 0, none⟩ ns.length cap ns ?_
  have hl := run_loadCells_list (P := Try.prog) w ⟨g, 0, none⟩ (ns.map (Value.int .u8)) (fun j v hv => h.cells (g := g) rfl j v hv)
  simpa using hl
set_option maxHeartbeats 800000 in
set_option maxRecDepth 100000 in
theorem dprint_ok (f : Nat → Int) (w : World) (h : Good f) :
    Calls Try.prog 62 #[.agg #[.int .i8 (f 0), .int .i8 (f 1), .int .i8 (f 2), .int .i8 (f 3), .int .i8 (f 4), .int .i8 (f 5)]] w fun e w' => e = .returned (.tuple #[.string ((pl f 6).foldl (fun r n => r.push (UInt8.ofNat n.toNat)) ByteArray.empty), .int .i64 0]) ∧ Below w.heap.size w w' := by
  obtain ⟨i0, hi0, hz0, hz1, hz2⟩ := info_parts info5
  have HK := hide_ (fun wx => dcheck_ok f wx h)
  have H := hide_ h
  clear h
  go_enter Try.func62, Try.ntmps62
  go_wp2_with (go_at_call 55; (with_reducible refine (HK.out _).mono ?_); rintro e w1 ⟨rfl, hb1⟩; obtain ⟨c0, c1, c2, c3, c4, c5⟩ := cells_ar (blk_below hb1))
  have hg1 := ((Grew.refl w).alloc (.cells #[.int .i8 (f 0), .int .i8 (f 1), .int .i8 (f 2), .int .i8 (f 3), .int .i8 (f 4), .int .i8 (f 5)] 54)).step hb1
  clear HK c0 c1 c2 c3 c4 c5 hb1
  go_loopw [5, 14] (fun v i wr => ∃ k : Nat, k ≤ 6 ∧ i = .int .i64 k ∧ wr.ownsRow w.heap.size 5 1 v (pl f k).length ((pl f k).map (Value.int .u8)) ∧ Grew w.heap.size w wr) (fun _ i _ => 6 - (intOf i).toNat)
  case atStart => exact ⟨0, by omega, rfl, World.ownsRow_nil _ _ _ _, hg1⟩
  case round =>
    obtain ⟨k, hk, rfl, hown, hgr⟩ := hrel
    have hlen := pl_len f k
    have hsz := hgr.2
    by_cases hlt : k < 6
    · have hi := ar_index f k hlt
      have hfk := H.out k hlt
      by_cases h3 : k = 3
      · have hk3 : ((k : Int) == 3) = true := by rw [beq_iff_eq]; omega
        have h3' := hide_ h3
        clear h3
        go_wp2_with (first
          | (at_builtin; refine wpList_push rfl _ _ 124 rfl w.heap.size 5 i0 (.int .u8 0) 1 1 Try.underlying124 hi0 hz0 hz1 hz2 rfl (by decide) (by decide) _ _ _ rfl hown #[.int .u8 46] _ 1 1 rfl rfl (by kernel_rfl) (by omega) (by omega) ?_; intro v3 w3 hown3 hb3 _ _)
          | (at_builtin; refine wpList_push rfl _ _ 124 rfl w.heap.size 5 i0 (.int .u8 0) 1 1 Try.underlying124 hi0 hz0 hz1 hz2 rfl (by decide) (by decide) _ _ _ rfl hown3 #[.int .u8 (53 + f k)] _ 1 1 rfl rfl (by kernel_rfl) (by omega) (hgr.more hb3).2 ?_; intro v4 w4 hown4 hb4 _ _))
        go_roundw
        case rel => exact ⟨k + 1, by omega, by go_num, by simpa [pl, h3'.out] using hown4, (hgr.more hb3).more hb4⟩
        case measure => simp [intOf]; omega
      · have hk3 : ((k : Int) == 3) = false := by rw [beq_eq_false_iff_ne]; omega
        go_wp2_with (first
          | (at_builtin; refine wpList_push rfl _ _ 124 rfl w.heap.size 5 i0 (.int .u8 0) 1 1 Try.underlying124 hi0 hz0 hz1 hz2 rfl (by decide) (by decide) _ _ _ rfl hown #[.int .u8 (53 + f k)] _ 1 1 rfl rfl (by kernel_rfl) (by omega) (by omega) ?_; intro v3 w3 hown3 hb3 _ _))
        go_roundw
        case rel => exact ⟨k + 1, by omega, by go_num, by simpa [pl, h3] using hown3, hgr.more hb3⟩
        case measure => simp [intOf]; omega
    · obtain rfl : k = 6 := by omega
      have hp : 0 < (pl f 6).length := by simp [pl]
      obtain ⟨g, cap, rfl, hg, hgl⟩ := hown.form hp
      have hcv := string_of hown
      go_wp2
      go_ret2
      exact ⟨rfl, hgr.below⟩
theorem dprint_no (f : Nat → Int) (w : World) (h : ¬ Good f) :
    Calls Try.prog 62 #[.agg #[.int .i8 (f 0), .int .i8 (f 1), .int .i8 (f 2), .int .i8 (f 3), .int .i8 (f 4), .int .i8 (f 5)]] w fun e w' => e = .returned (.tuple #[.string ⟨#[]⟩, .int .i64 210]) ∧ Below w.heap.size w w' := by
  have HK := hide_ (fun wx => dcheck_no f wx h)
  clear h
  go_enter Try.func62, Try.ntmps62
  go_wp2_with (go_at_call 55; (with_reducible refine (HK.out _).mono ?_); rintro e w1 ⟨rfl, hb1⟩)
  go_ret2
  exact ⟨rfl, by exact Grew.below (by repeat (first | exact Grew.refl _ | assumption | refine Grew.alloc ?_ _ | refine Grew.drewN ?_ _ | refine Grew.drew ?_ | refine Grew.setRow ?_ (by first | assumption | (simp; done) | (simp; omega) | omega) _ | refine Grew.setCell ?_ (by first | assumption | (simp; done) | (simp; omega) | omega) _ | refine Grew.step ?_ (by assumption)))⟩
theorem speed_parts (k : Nat) : ∃ x y : Int, turnV (rowAdds k).toNat 3600000000 = #[.int .i64 x, .int .i64 y] ∧ 1 ≤ y ∧ y ≤ 3600000000 ∧ x * (3600000000 / y) = rowAdds k ∧ 0 ≤ 3600000000 / y ∧ 3600000000 / y ≤ 3600000000 ∧ 0 ≤ x ∧ x ≤ 3600000000 := by
  have hb := adds_bd k
  have hl := low_of (rowAdds k).toNat 3600000000 (by omega)
  have hs := speed_cells k
  have hwp := hl.wpos
  have hwl := hl.wle
  have hlt := hl.lt
  refine ⟨_, _, rfl, by omega, by omega, by rw [Int.mul_comm]; exact hs, Int.ediv_nonneg (by omega) (by omega), Int.ediv_le_self _ (by omega), Int.natCast_nonneg _, by have := Nat.div_le_self (rowAdds k).toNat (Nat.gcd 3600000000 (rowAdds k).toNat); omega⟩
theorem cells_au {w : World} {g : Nat} {u : Nat → Int} (h : w.heap[g]? = some (.cells #[.int .i64 (u 0), .int .i64 (u 1), .int .i64 (u 2), .int .i64 (u 3), .int .i64 (u 4), .int .i64 (u 5)] 117)) :
    w.cell? ⟨g, 0, none⟩ = some (.int .i64 (u 0)) ∧ w.cell? ⟨g, 1, none⟩ = some (.int .i64 (u 1)) ∧ w.cell? ⟨g, 2, none⟩ = some (.int .i64 (u 2)) ∧ w.cell? ⟨g, 3, none⟩ = some (.int .i64 (u 3)) ∧ w.cell? ⟨g, 4, none⟩ = some (.int .i64 (u 4)) ∧ w.cell? ⟨g, 5, none⟩ = some (.int .i64 (u 5)) := by
  refine ⟨?_, ?_, ?_, ?_, ?_, ?_⟩ <;> (rw [cell_of_row _ _ _ _ _ _ h]; rfl)
theorem cell_au {w : World} {r : Nat} {f : Nat → Int} (h : w.heap[r]? = some (.cells #[.int .i64 (f 0), .int .i64 (f 1), .int .i64 (f 2), .int .i64 (f 3), .int .i64 (f 4), .int .i64 (f 5)] 117)) (k : Nat) (hk : k < 6) : w.cell? ⟨r, k, none⟩ = some (.int .i64 (f k)) := by
  obtain ⟨a0, a1, a2, a3, a4, a5⟩ := cells_au h
  exact six_cases (P := fun k => w.cell? ⟨r, k, none⟩ = some (.int .i64 (f k))) a0 a1 a2 a3 a4 a5 k hk
theorem set_au {w : World} {r k : Nat} {h : Nat → Int} (hn : w.heap[r]? = some (.cells #[.int .i64 (part h k 0), .int .i64 (part h k 1), .int .i64 (part h k 2), .int .i64 (part h k 3), .int .i64 (part h k 4), .int .i64 (part h k 5)] 117)) (hk : k < 6) : (w.setCell ⟨r, k, none⟩ (.int .i64 (h k))).heap[r]? = some (.cells #[.int .i64 (part h (k + 1) 0), .int .i64 (part h (k + 1) 1), .int .i64 (part h (k + 1) 2), .int .i64 (part h (k + 1) 3), .int .i64 (part h (k + 1) 4), .int .i64 (part h (k + 1) 5)] 117) := by
  have e : (w.setCell ⟨r, k, none⟩ (.int .i64 (h k))).heap[r]? = some (.cells ((#[.int .i64 (part h k 0), .int .i64 (part h k 1), .int .i64 (part h k 2), .int .i64 (part h k 3), .int .i64 (part h k 4), .int .i64 (part h k 5)] : Array Value).setIfInBounds k (.int .i64 (h k))) 117) := by
    simp [World.setCell, Array.getElem?_modify, hn]
  rw [e]
  rcases (show k = 0 ∨ k = 1 ∨ k = 2 ∨ k = 3 ∨ k = 4 ∨ k = 5 by omega) with rfl | rfl | rfl | rfl | rfl | rfl <;> simp [part]
theorem part_allu (h : Nat → Int) : (#[.int .i64 (part h 6 0), .int .i64 (part h 6 1), .int .i64 (part h 6 2), .int .i64 (part h 6 3), .int .i64 (part h 6 4), .int .i64 (part h 6 5)] : Array Value) = #[.int .i64 (h 0), .int .i64 (h 1), .int .i64 (h 2), .int .i64 (h 3), .int .i64 (h 4), .int .i64 (h 5)] := by simp [part]
set_option maxHeartbeats 1600000 in
set_option maxRecDepth 100000 in
theorem dspeed_ok (f : Nat → Int) (w : World) (h : Good f) :
    Calls Try.prog 46 #[.agg #[.int .i8 (f 0), .int .i8 (f 1), .int .i8 (f 2), .int .i8 (f 3), .int .i8 (f 4), .int .i8 (f 5)]] w fun e w' => e = .returned (.tuple #[.agg (turnV (dsum f rowAdds 6 % 3600000000).toNat 3600000000), .int .i64 0]) ∧ Below w.heap.size w w' := by
  have hs := fun wx => dsum_ok f rowAdds wx h (fun j _ => by have := adds_bd j; omega)
  obtain ⟨X, Y, e1⟩ := turnV_two (dsum f rowAdds 6 % 3600000000).toNat 3600000000
  rw [e1] at hs ⊢
  have HS := hide_ hs
  have HK := hide_ (fun wx => dcheck_ok f wx h)
  clear h hs e1
  go_enter Try.func46, Try.ntmps46
  go_wp2_with (go_at_call 55; (with_reducible refine (HK.out _).mono ?_); rintro e w1 ⟨rfl, hb1⟩)
  obtain ⟨g0, g1, hlt⟩ := blk_two hb1
  have hg1 := (((Grew.refl w).alloc (.cells #[.int .i8 (f 0), .int .i8 (f 1), .int .i8 (f 2), .int .i8 (f 3), .int .i8 (f 4), .int .i8 (f 5)] 54)).alloc (.cells #[.int .i64 0, .int .i64 0] 35)).step hb1
  have G0 := hide_ g0
  have G1 := hide_ g1
  clear g0 g1 hb1 HK
  go_loopw [15] (fun i wr => ∃ k : Nat, k ≤ 6 ∧ i = .int .i64 k ∧ wr.heap[w.heap.size]? = some (.cells #[.int .i8 (f 0), .int .i8 (f 1), .int .i8 (f 2), .int .i8 (f 3), .int .i8 (f 4), .int .i8 (f 5)] 54) ∧ wr.heap[w.heap.size + 1]? = some (.cells #[.int .i64 0, .int .i64 0] 35) ∧ wr.heap[w1.heap.size]? = some (.cells #[.int .i64 (part rowAdds k 0), .int .i64 (part rowAdds k 1), .int .i64 (part rowAdds k 2), .int .i64 (part rowAdds k 3), .int .i64 (part rowAdds k 4), .int .i64 (part rowAdds k 5)] 117) ∧ Grew w.heap.size w wr) (fun i _ => 6 - (intOf i).toNat)
  case atStart => exact ⟨0, by omega, rfl, (Below.heap_alloc _ _ _ (by omega)).trans G0.out, (Below.heap_alloc _ _ _ (by omega)).trans G1.out, heap_alloc_last _ _, hg1.alloc _⟩
  case round =>
    obtain ⟨k, hk, rfl, h0, h1, hu, hgr⟩ := hrel
    have hul := lt_of_heap hu
    by_cases hk6 : k < 6
    · obtain ⟨x, y, hxy, y1, y2, hm, q1, q2, x1, x2⟩ := speed_parts k
      have hsp := fun wx => speed_ok k wx hk6
      rw [hxy] at hsp
      have HP := hide_ hsp
      have H0 := hide_ h0
      have H1 := hide_ h1
      have HU := hide_ hu
      clear hsp hxy h0 h1 hu
      have hk0 : (0 : Int) ≤ (k : Int) := by omega
      have hk66 : (k : Int) < 6 := by omega
      have hy0 : (y == 0) = false := by rw [beq_eq_false_iff_ne]; omega
      have ab := adds_bd k
      have t1 : (3600000000 : Int).tdiv y = 3600000000 / y := Int.tdiv_eq_ediv_of_nonneg (by omega)
      have t2 : IntKind.i64.wrap (3600000000 / y) = 3600000000 / y := IntWalk.i64_in _ (by omega)
      have t3 : IntKind.i64.wrap (rowAdds k) = rowAdds k := IntWalk.i64_in _ (by omega)
      go_wp2_with (go_at_call 21; (with_reducible refine (HP.out _).mono ?_); rintro e w2 ⟨rfl, hb2⟩)
      have hl2 := hb2.size
      have hw1 : w1.heap.size < w2.heap.size := by omega
      have cu := cell_au ((hb2.block _ hul).trans HU.out) k hk6
      have fu := free_ar ((hb2.block _ hul).trans HU.out) k
      have n0 := hide_ ((hb2.block _ (by omega)).trans H0.out)
      have n1 := hide_ ((hb2.block _ (by omega)).trans H1.out)
      have nu := hide_ ((hb2.block _ hul).trans HU.out)
      have m0 := hide_ (show ((w2.setCell ⟨w1.heap.size, k, none⟩ (.int .i64 (rowAdds k))).alloc (.cells #[.int .i64 x, .int .i64 y] 35)).heap[w.heap.size]? = some (.cells #[.int .i8 (f 0), .int .i8 (f 1), .int .i8 (f 2), .int .i8 (f 3), .int .i8 (f 4), .int .i8 (f 5)] 54) from
        (Below.heap_alloc _ _ _ (by simp [World.setCell]; omega)).trans ((Below.heap_setCell _ _ _ _ (by simp; omega)).trans n0.out))
      have m1 := hide_ (show ((w2.setCell ⟨w1.heap.size, k, none⟩ (.int .i64 (rowAdds k))).alloc (.cells #[.int .i64 x, .int .i64 y] 35)).heap[w.heap.size + 1]? = some (.cells #[.int .i64 0, .int .i64 0] 35) from
        (Below.heap_alloc _ _ _ (by simp [World.setCell]; omega)).trans ((Below.heap_setCell _ _ _ _ (by simp; omega)).trans n1.out))
      have mu := hide_ (show ((w2.setCell ⟨w1.heap.size, k, none⟩ (.int .i64 (rowAdds k))).alloc (.cells #[.int .i64 x, .int .i64 y] 35)).heap[w1.heap.size]? = some (.cells #[.int .i64 (part rowAdds (k + 1) 0), .int .i64 (part rowAdds (k + 1) 1), .int .i64 (part rowAdds (k + 1) 2), .int .i64 (part rowAdds (k + 1) 3), .int .i64 (part rowAdds (k + 1) 4), .int .i64 (part rowAdds (k + 1) 5)] 117) from
        (Below.heap_alloc _ _ _ (by simp [World.setCell]; omega)).trans (set_au nu.out hk6))
      have hgl : w.heap.size ≤ w1.heap.size := by omega
      have hgr2 := ((hgr.step hb2).setCell (p := ⟨w1.heap.size, k, none⟩) hgl (.int .i64 (rowAdds k))).alloc (.cells #[.int .i64 x, .int .i64 y] 35)
      go_region
      go_wp2
      go_roundw
      case rel => exact ⟨k + 1, by omega, by go_num, m0.out, m1.out, mu.out, hgr2.drew⟩
      case measure => simp [intOf]; omega
    · obtain rfl : k = 6 := by omega
      rw [part_allu] at hu
      obtain ⟨u0, u1, u2, u3, u4, u5⟩ := cells_au hu
      obtain ⟨c0, c1, c2, c3, c4, c5⟩ := cells_ar h0
      have hl1 := lt_of_heap h1
      have H1 := hide_ h1
      clear hu h0 h1
      go_wp2_with (first
        | (go_at_call 93; (with_reducible refine (HS.out _).mono ?_); rintro e w3 ⟨rfl, hb3⟩; have n1 := (hb3.block _ hl1).trans H1.out)
        | ((with_reducible apply wpList_store_blk); (with_reducible rfl); (with_reducible rfl); rfl; assumption; rfl; kernel_rfl; rfl; kernel_rfl))
      refine ret_ct rfl _ 35 _ _ rfl (setRow_heap _ _ _ _ _ _ n1) Try.underlying35 rfl (by kernel_rfl) rfl ⟨rfl, ?_⟩
      exact Grew.below (by repeat (first | exact Grew.refl _ | assumption | refine Grew.alloc ?_ _ | refine Grew.drewN ?_ _ | refine Grew.drew ?_ | refine Grew.setRow ?_ (by first | assumption | (simp; done) | (simp; omega) | omega) _ | refine Grew.setCell ?_ (by first | assumption | (simp; done) | (simp; omega) | omega) _ | refine Grew.step ?_ (by assumption)))
end Go.Proofs.Ytklhdpkofpkmjaa
