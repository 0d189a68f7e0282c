/- Contracts of package argument: Speed, Name, Find. -/
import Derived.Test.YtklhdpkofpkmjaaAng2
namespace Go.Proofs.Ytklhdpkofpkmjaa
open Go.RowKit
theorem field93_0 (s : ByteArray) (a b : Int) (w : World) : (Instr.field 93 (.agg #[.string s, .int .i64 a, .int .i64 b]) 0).run Try.prog w = .ok (.string s) w := by kernel_rfl
theorem field93_2 (s : ByteArray) (a b : Int) (w : World) : (Instr.field 93 (.agg #[.string s, .int .i64 a, .int .i64 b]) 2).run Try.prog w = .ok (.int .i64 b) w := by kernel_rfl
set_option maxRecDepth 100000 in
/-- What a tick adds, as a turn. -/
theorem speed_ok (k : Nat) (w : World) (hk : k < 6) :
    Calls Try.prog 21 #[.int .i64 (k : Int)] w fun e w' => e = .returned (.tuple #[.agg (turnV (rowAdds k).toNat 3600000000), .int .i64 0]) ∧ Below w.heap.size w w' := by
  have hat := rows_at k hk
  have hfd := field93_2
  have hu : (rowAdds k % 3600000000).toNat = (rowAdds k).toNat := by have := adds_bd k; omega
  have hc := fun wx => of_circle (rowAdds k) wx
  rw [hu] at hc
  have Hc := hide_ hc
  clear hc hu
  go_enter Try.func21, Try.ntmps21
  go_wp2_with (first | (go_at_call 79; refine (asked_ok _ _ _ (by omega) (by omega) (by omega) (by omega)).mono ?_; rintro e w' ⟨rfl, rfl⟩) | (go_at_call 80; refine (rows_any _).mono ?_; rintro e w1 ⟨rfl, hb1⟩) | (go_at_call 32; refine (Hc.out _).mono ?_; rintro e w2 ⟨rfl, hb2⟩; have hg1 := (hb2.block _ (Nat.lt_of_lt_of_le (by simp) hb1.size)).trans (blk_below hb1)) | ((with_reducible apply wpList_store_blk); (with_reducible rfl); (with_reducible rfl); rfl; assumption; rfl; kernel_rfl; rfl; kernel_rfl))
  refine ret_ct rfl _ 35 _ _ rfl (setRow_heap _ _ _ _ _ _ hg1) Try.underlying35 rfl (by kernel_rfl) rfl ⟨?_, ?_⟩
  · simp
  · refine below_setRow (Below.trans (Below.trans ?_ (hb1.mono (by simp))) (hb2.mono (Nat.le_trans (by simp) hb1.size))) (Nat.le_refl _) _
    (repeat (first | exact Below.refl _ _ | assumption | refine Below.setCell ?_ (by first | assumption | (simp; done) | (simp; omega) | omega) _ | refine below_drewN ?_ _ | refine Below.drew ?_ | refine Below.alloc ?_ (by first | assumption | (simp; done) | (simp; omega) | omega) _))
theorem speed_no (k : Int) (w : World) (h : k < 0 ∨ 6 ≤ k) :
    Calls Try.prog 21 #[.int .i64 k] w fun e w' => e = .returned (.tuple #[.agg #[.int .i64 0, .int .i64 0], .int .i64 2]) ∧ Below w.heap.size w w' := by
  have H := hide_ (show k < 0 ∨ (6 : Int) ≤ k ∨ (0 : Int) < 0 ∨ (1048576 : Int) < 0 by omega)
  clear h
  go_enter Try.func21, Try.ntmps21
  go_wp2_with (go_at_call 79; refine (asked_no _ _ _ H.out).mono ?_; rintro e w' ⟨rfl, rfl⟩)
  refine bodyPost_ret (v := .tuple #[.agg #[.int .i64 0, .int .i64 0], .int .i64 2]) (by simp [results, Try.results21, go_sem]) rfl ⟨rfl, ?_⟩
  (repeat (first | exact Below.refl _ _ | assumption | refine Below.setCell ?_ (by first | assumption | (simp; done) | (simp; omega) | omega) _ | refine below_drewN ?_ _ | refine Below.drew ?_ | refine Below.alloc ?_ (by first | assumption | (simp; done) | (simp; omega) | omega) _))
theorem angle_no (k t : Int) (w : World) (h : k < 0 ∨ 6 ≤ k ∨ t < 0 ∨ 1048576 < t) :
    Calls Try.prog 22 #[.int .i64 k, .int .i64 t] w fun e w' => e = .returned (.tuple #[.agg #[.int .i64 0, .int .i64 0], .int .i64 2]) ∧ Below w.heap.size w w' := by
  have H := hide_ h
  clear h
  go_enter Try.func22, Try.ntmps22
  go_wp2_with (go_at_call 19; refine (units_no _ _ _ H.out).mono ?_; rintro e w' ⟨rfl, rfl⟩)
  refine bodyPost_ret (v := .tuple #[.agg #[.int .i64 0, .int .i64 0], .int .i64 2]) (by simp [results, Try.results22, go_sem]) rfl ⟨rfl, ?_⟩
  (repeat (first | exact Below.refl _ _ | assumption | refine Below.setCell ?_ (by first | assumption | (simp; done) | (simp; omega) | omega) _ | refine below_drewN ?_ _ | refine Below.drew ?_ | refine Below.alloc ?_ (by first | assumption | (simp; done) | (simp; omega) | omega) _))
set_option maxRecDepth 100000 in
theorem name_ok (k : Nat) (w : World) (hk : k < 6) : Calls Try.prog 20 #[.int .i64 (k : Int)] w fun e w' => e = .returned (.string (rowName k)) ∧ Below w.heap.size w w' := by
  have hat := rows_at k hk
  have hfd := field93_0
  go_enter Try.func20, Try.ntmps20
  go_wp2_with (first | (go_at_call 79; refine (asked_ok _ _ _ (by omega) (by omega) (by omega) (by omega)).mono ?_; rintro e w' ⟨rfl, rfl⟩) | (go_at_call 80; refine (rows_any _).mono ?_; rintro e w1 ⟨rfl, hb1⟩))
  go_ret
  exact ⟨rfl, hb1⟩
theorem name_no (k : Int) (w : World) (h : k < 0 ∨ 6 ≤ k) : Calls Try.prog 20 #[.int .i64 k] w fun e w' => e = .returned (.string ⟨#[]⟩) ∧ w = w' := by
  have H := hide_ (show k < 0 ∨ (6 : Int) ≤ k ∨ (0 : Int) < 0 ∨ (1048576 : Int) < 0 by omega)
  clear h
  go_enter Try.func20, Try.ntmps20
  go_wp2_with (go_at_call 79; refine (asked_no _ _ _ H.out).mono ?_; rintro e w' ⟨rfl, rfl⟩)
  go_ret
  exact ⟨rfl, rfl⟩
/-- The place of a name among the six from k on, if any. -/
def findFrom (s : ByteArray) (k : Nat) : Option Nat := (List.range' k (6 - k)).find? fun j => decide (rowName j = s)
theorem find_hit {s : ByteArray} {k : Nat} (hk : k < 6) (h : rowName k = s) : findFrom s k = some k := by
  obtain ⟨n, hn⟩ : ∃ n, 6 - k = n + 1 := ⟨5 - k, by omega⟩
  unfold findFrom
  rw [hn, List.range'_succ, List.find?_cons_of_pos (by simp [h])]
theorem find_miss {s : ByteArray} {k : Nat} (hk : k < 6) (h : ¬ rowName k = s) : findFrom s (k + 1) = findFrom s k := by
  obtain ⟨n, hn⟩ : ∃ n, 6 - k = n + 1 := ⟨5 - k, by omega⟩
  unfold findFrom
  rw [hn, List.range'_succ, List.find?_cons_of_neg (by simp [h]), show 6 - (k + 1) = n by omega]
theorem find_end (s : ByteArray) : findFrom s 6 = none := rfl
theorem find_ok (s : ByteArray) (w : World) : Calls Try.prog 18 #[.string s] w fun e w' =>
    e = .returned (match findFrom s 0 with | some k => .tuple #[.int .i64 (k : Int), .bool true] | none => .tuple #[.int .i64 0, .bool false]) ∧ Below w.heap.size w w' := by
  obtain ⟨r, hr⟩ : ∃ r : Value, r = (match findFrom s 0 with | some k => .tuple #[.int .i64 (k : Int), .bool true] | none => .tuple #[.int .i64 0, .bool false]) := ⟨_, rfl⟩
  rw [← hr]
  have Hr := hide_ hr
  clear hr
  go_enter Try.func18, Try.ntmps18
  go_wp2_with (go_at_call 80; refine (rows_any _).mono ?_; rintro e w1 ⟨rfl, hb1⟩)
  go_loopw [7] (fun i wr => ∃ k : Nat, k ≤ 6 ∧ i = .int .i64 k ∧ Hid (findFrom s k = findFrom s 0) ∧ Below w.heap.size w wr) (fun i _ => 6 - (intOf i).toNat)
  case atStart => exact ⟨0, by omega, rfl, rfl, hb1⟩
  case round =>
    obtain ⟨k, hk, rfl, hf, hbl⟩ := hrel
    by_cases hlt : k < 6
    · have hat := rows_at k hlt
      have hsz := hbl.size
      by_cases hn : rowName k = s
      · have hn1 : ((rowName k).toList == s.toList) = true := by rw [hn]; simp
        have hfin := Hr.out
        rw [← hf.out, find_hit hlt hn] at hfin
        have Hfin := hide_ hfin
        clear hfin hn
        go_wp2
        go_ret2
        exact ⟨by rw [Hfin.out]; rfl, by (repeat (first | exact Below.refl _ _ | assumption | refine Below.setCell ?_ (by first | assumption | (simp; done) | (simp; omega) | omega) _ | refine below_drewN ?_ _ | refine Below.drew ?_ | refine Below.alloc ?_ (by first | assumption | (simp; done) | (simp; omega) | omega) _))⟩
      · have hn1 := bytes_ne hn
        have hf2 := hide_ ((find_miss hlt hn).trans hf.out)
        clear hn
        go_wp2
        go_roundw
        case rel => exact ⟨k + 1, by omega, by go_num, hf2, by (repeat (first | exact Below.refl _ _ | assumption | refine Below.setCell ?_ (by first | assumption | (simp; done) | (simp; omega) | omega) _ | refine below_drewN ?_ _ | refine Below.drew ?_ | refine Below.alloc ?_ (by first | assumption | (simp; done) | (simp; omega) | omega) _))⟩
        case measure => simp [intOf]; omega
    · obtain rfl : k = 6 := by omega
      have hfin := Hr.out
      rw [← hf.out, find_end] at hfin
      have Hfin := hide_ hfin
      clear hfin
      go_wp2
      go_ret2
      exact ⟨by rw [Hfin.out]; rfl, hbl⟩
end Go.Proofs.Ytklhdpkofpkmjaa
