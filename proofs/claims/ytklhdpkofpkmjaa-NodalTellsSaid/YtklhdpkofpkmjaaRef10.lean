/- Contracts of the document's answer for chapter 10 (slackwaterref10), each the same as the program's. -/
import Derived.Test.YtklhdpkofpkmjaaAng3
import Derived.Test.YtklhdpkofpkmjaaTurn3
namespace Go.Proofs.Ytklhdpkofpkmjaa
open Go.RowKit
theorem cells_new {w w1 : World} {a b : Value} {T : TypeId} (hb : Below (w.alloc (.cells #[a, b] T)).heap.size (w.alloc (.cells #[a, b] T)) w1) : w1.cell? ⟨w.heap.size, 0, none⟩ = some a ∧ w1.cell? ⟨w.heap.size, 1, none⟩ = some b :=
  ⟨(blk2 hb).1, (blk2 hb).2.1⟩
theorem free_new {w w1 : World} {a b : Value} {T : TypeId} (hb : Below (w.alloc (.cells #[a, b] T)).heap.size (w.alloc (.cells #[a, b] T)) w1) : w1.frozen? ⟨w.heap.size, 0, none⟩ = false ∧ w1.frozen? ⟨w.heap.size, 1, none⟩ = false := by
  have h := blk_below hb
  simp [World.frozen?, h]
theorem right_ok (k t : Int) (w : World) (hk : 0 ≤ k) (hk' : k < 6) (h0 : 0 ≤ t) (h1 : t ≤ 1048576) : Calls Try.prog 81 #[.int .i64 k, .int .i64 t] w fun e w' => e = .returned (.bool true) ∧ w = w' := by
  go_enter Try.func81, Try.ntmps81
  go_wp2
  go_ret
  exact ⟨rfl, rfl⟩
theorem right_no (k t : Int) (w : World) (h : k < 0 ∨ 6 ≤ k ∨ t < 0 ∨ 1048576 < t) : Calls Try.prog 81 #[.int .i64 k, .int .i64 t] w fun e w' => e = .returned (.bool false) ∧ w = w' := by
  go_enter Try.func81, Try.ntmps81
  go_wp2
  all_goals
    go_ret
    exact ⟨by first | rfl | (simp; omega), rfl⟩
theorem rrows_any (w : World) : Calls Try.prog 82 #[] w fun e w' => e = .returned (.slice (some ⟨w.heap.size, 0, none⟩) 6 6) ∧ w.alloc (.cells rowsV 98) = w' := by
  go_enter Try.func82, Try.ntmps82
  go_wp2
  go_ret
  exact ⟨rfl, by kernel_rfl⟩
theorem rows_get (k : Nat) (hk : k < 6) : rowsV[k * 3]? = some (.string (rowName k)) ∧ rowsV[k * 3 + 1]? = some (.int .i64 (rowFirst k)) ∧ rowsV[k * 3 + 2]? = some (.int .i64 (rowAdds k)) := by
  rcases (show k = 0 ∨ k = 1 ∨ k = 2 ∨ k = 3 ∨ k = 4 ∨ k = 5 by omega) with rfl | rfl | rfl | rfl | rfl | rfl <;> exact ⟨by kernel_rfl, by kernel_rfl, by kernel_rfl⟩
set_option maxRecDepth 100000 in
theorem runits_ok (k : Nat) (t : Int) (w : World) (hk : k < 6) (h0 : 0 ≤ t) (h1 : t ≤ 1048576) :
    Calls Try.prog 23 #[.int .i64 (k : Int), .int .i64 t] w fun e w' => e = .returned (.tuple #[.int .i64 (unit k t), .int .i64 0]) ∧ Below w.heap.size w w' := by
  obtain ⟨r0, r1, r2⟩ := rows_get k hk
  have f1 := first_bd k
  have a1 := adds_mul k t h0 h1
  have hcm : t * rowAdds k = rowAdds k * t := Int.mul_comm _ _
  have hk6 : (k : Int) < 6 := by omega
  go_enter Try.func23, Try.ntmps23
  go_wp2_with (first | (go_at_call 81; (with_reducible refine (right_ok _ _ _ (by omega) (by omega) h0 h1).mono ?_); rintro e w' ⟨rfl, rfl⟩) | (go_at_call 82; (with_reducible refine (rrows_any _).mono ?_); rintro e w1 ⟨rfl, rfl⟩))
  go_ret2
  exact ⟨rfl, by (repeat (first | exact Below.refl _ _ | assumption | refine Below.setCell ?_ (by first | assumption | (simp; done) | (simp; omega) | omega) _ | refine below_drewN ?_ _ | refine Below.drew ?_ | refine Below.alloc ?_ (by first | assumption | (simp; done) | (simp; omega) | omega) _))⟩
theorem runits_no (k t : Int) (w : World) (h : k < 0 ∨ 6 ≤ k ∨ t < 0 ∨ 1048576 < t) :
    Calls Try.prog 23 #[.int .i64 k, .int .i64 t] w fun e w' => e = .returned (.tuple #[.int .i64 0, .int .i64 2]) ∧ Below w.heap.size w w' := by
  have H := hide_ h
  clear h
  go_enter Try.func23, Try.ntmps23
  go_wp2_with (go_at_call 81; refine (right_no _ _ _ H.out).mono ?_; rintro e w' ⟨rfl, rfl⟩)
  go_ret2
  exact ⟨rfl, Below.refl _ _⟩
theorem rcommon_ok (p q : Nat) (w : World) (hp : p ≤ 9223372036854775807) (hq : q ≤ 9223372036854775807) :
    Calls Try.prog 113 #[.int .i64 (p : Int), .int .i64 (q : Int)] w fun e w' => e = .returned (.int .i64 (Nat.gcd p q : Nat)) ∧ ∃ n, w' = w.drewN n := by
  obtain ⟨g, hgd⟩ : ∃ g, g = Nat.gcd p q := ⟨_, rfl⟩
  rw [← hgd]
  have Hg := hide_ hgd
  clear hgd
  go_enter Try.func113, Try.ntmps113
  go_wp2
  go_loopw [0, 1] (fun a b wr => ∃ x y n : Nat, x ≤ 9223372036854775807 ∧ y ≤ 9223372036854775807 ∧ Hid (Nat.gcd x y = Nat.gcd p q) ∧ a = .int .i64 x ∧ b = .int .i64 y ∧ wr = w.drewN n) (fun _ b _ => (intOf b).toNat)
  case atStart => exact ⟨p, q, 0, hp, hq, rfl, rfl, rfl, rfl⟩
  case round =>
    obtain ⟨x, y, n, hx, hy, hg, rfl, rfl, rfl⟩ := hrel
    by_cases hy0 : y = 0
    · subst hy0
      obtain rfl : x = g := by have := hg.out; rw [Nat.gcd_zero_right] at this; rw [Hg.out, this]
      clear hg Hg
      go_wp2
      go_ret
      exact ⟨rfl, _, rfl⟩
    · have hy1 : 1 ≤ y := by omega
      have hb : ((y : Int) != 0) = true := by rw [bne_iff_ne]; omega
      have hb0 : ((y : Int) == 0) = false := by rw [beq_eq_false_iff_ne]; omega
      go_wp2
      go_quiet (fail)
      go_wp2
      have hm := Nat.mod_lt x (show 0 < y by omega)
      go_roundw
      case rel => exact ⟨y, x % y, n + nq, by omega, by omega, hide_ (by rw [← hg.out, Nat.gcd_comm x y, Nat.gcd_rec y x, Nat.gcd_comm]), rfl, by rw [Int.natCast_emod], World.drewN_drewN _ _ _⟩
      case measure => simp only [intOf, ← Int.natCast_emod]; simp; omega
theorem rturn_ok (p : Nat) (w : World) (hp : p < 3600000000) :
    Calls Try.prog 83 #[.int .i64 (p : Int)] w fun e w' => e = .returned (.agg (turnV p 3600000000)) ∧ Below w.heap.size w w' := by
  have hc := fun wx => rcommon_ok 3600000000 p wx (by omega) (by omega)
  have hgp : 0 < Nat.gcd 3600000000 p := Nat.gcd_pos_of_pos_left _ (by omega)
  have ht : turnV p 3600000000 = #[.int .i64 ((p : Int) / (Nat.gcd 3600000000 p : Nat)), .int .i64 (3600000000 / (Nat.gcd 3600000000 p : Nat))] := by
    unfold turnV
    rw [Int.natCast_ediv, Int.natCast_ediv]
    rfl
  rw [ht]
  clear ht
  have HC : Hid (∀ wx, Calls Try.prog 113 #[.int .i64 3600000000, .int .i64 (p : Int)] wx fun e w' => e = .returned (.int .i64 (Nat.gcd 3600000000 p : Nat)) ∧ ∃ n, w' = wx.drewN n) := hide_ hc
  clear hc
  generalize Nat.gcd 3600000000 p = g at HC hgp ⊢
  have b1 := div_bd p g
  have b2 := div_bd 3600000000 g
  have b3 : (((3600000000 : Nat) : Int)) = 3600000000 := rfl
  rw [b3] at b2
  clear b3
  have hg1 : (1 : Int) ≤ (g : Int) := by omega
  have hgb : ((g : Int) == 0) = false := by rw [beq_eq_false_iff_ne]; omega
  go_enter Try.func83, Try.ntmps83
  go_wp2_with (go_at_call 113; (with_reducible refine (HC.out _).mono ?_); rintro e w1 ⟨rfl, n, rfl⟩)
  go_region
  go_wp2
  refine bodyPost_ret (v := .agg #[.int .i64 ((p : Int) / g), .int .i64 (3600000000 / g)]) (by simp [results, Try.results83, go_sem]) rfl ⟨rfl, ?_⟩
  (repeat (first | exact Below.refl _ _ | assumption | refine Below.setCell ?_ (by first | assumption | (simp; done) | (simp; omega) | omega) _ | refine below_drewN ?_ _ | refine Below.drew ?_ | refine Below.alloc ?_ (by first | assumption | (simp; done) | (simp; omega) | omega) _))
theorem rangle_ok (k : Nat) (t : Int) (w : World) (hk : k < 6) (h0 : 0 ≤ t) (h1 : t ≤ 1048576) :
    Calls Try.prog 24 #[.int .i64 (k : Int), .int .i64 t] w fun e w' => e = .returned (.tuple #[.agg (turnV (unit k t).toNat 3600000000), .int .i64 0]) ∧ Below w.heap.size w w' := by
  have u1 := unit_bd k t
  have hu := fun wx => runits_ok k t wx hk h0 h1
  have ht := fun wx => rturn_ok (unit k t).toNat wx (by omega)
  rw [Int.toNat_of_nonneg u1.1] at ht
  obtain ⟨x, y, e1⟩ := turnV_two (unit k t).toNat 3600000000
  rw [e1] at ht ⊢
  have HU := hide_ hu
  have HT := hide_ ht
  clear hu ht e1 u1
  go_enter Try.func24, Try.ntmps24
  go_wp2_with (first | (go_at_call 23; (with_reducible refine (HU.out _).mono ?_); rintro e w1 ⟨rfl, hb1⟩) | (go_at_call 83; (with_reducible refine (HT.out _).mono ?_); rintro e w2 ⟨rfl, hb2⟩; have hg1 := (hb2.block _ (Nat.lt_of_lt_of_le (by simp) hb1.size)).trans (blk_below hb1)) | ((with_reducible apply wpList_store_blk); (with_reducible rfl); (with_reducible rfl); rfl; assumption; rfl; kernel_rfl; rfl; kernel_rfl))
  refine ret_ct rfl _ 35 _ _ rfl (setRow_heap _ _ _ _ _ _ hg1) Try.underlying35 rfl (by kernel_rfl) rfl ⟨?_, ?_⟩
  · simp
  · have hg0 := ((Grew.refl w).alloc (.cells #[.int .i64 0, .int .i64 0] 35)).step hb1
    exact Grew.below (by repeat (first | exact Grew.refl _ | assumption | refine Grew.alloc ?_ _ | refine Grew.drewN ?_ _ | refine Grew.drew ?_ | refine Grew.setRow ?_ (by first | assumption | (simp; done) | (simp; omega) | omega) _ | refine Grew.setCell ?_ (by first | assumption | (simp; done) | (simp; omega) | omega) _ | refine Grew.step ?_ (by assumption)))
theorem rangle_no (k t : Int) (w : World) (h : k < 0 ∨ 6 ≤ k ∨ t < 0 ∨ 1048576 < t) :
    Calls Try.prog 24 #[.int .i64 k, .int .i64 t] w fun e w' => e = .returned (.tuple #[.agg #[.int .i64 0, .int .i64 0], .int .i64 2]) ∧ Below w.heap.size w w' := by
  have H := hide_ h
  clear h
  go_enter Try.func24, Try.ntmps24
  go_wp2_with (go_at_call 23; refine (runits_no _ _ _ H.out).mono ?_; rintro e w1 ⟨rfl, hb1⟩; obtain ⟨q0, q1⟩ := cells_new hb1; obtain ⟨f0, f1⟩ := free_new hb1)
  refine bodyPost_ret (v := .tuple #[.agg #[.int .i64 0, .int .i64 0], .int .i64 2]) (by simp [results, Try.results24, go_sem, q0, q1]) rfl ⟨rfl, ?_⟩
  have hg0 := ((Grew.refl w).alloc (.cells #[.int .i64 0, .int .i64 0] 35)).step hb1
  exact Grew.below (by repeat (first | exact Grew.refl _ | assumption | refine Grew.alloc ?_ _ | refine Grew.drewN ?_ _ | refine Grew.drew ?_ | refine Grew.setRow ?_ (by first | assumption | (simp; done) | (simp; omega) | omega) _ | refine Grew.setCell ?_ (by first | assumption | (simp; done) | (simp; omega) | omega) _ | refine Grew.step ?_ (by assumption)))
theorem rspeed_ok (k : Nat) (w : World) (hk : k < 6) :
    Calls Try.prog 25 #[.int .i64 (k : Int)] w fun e w' => e = .returned (.tuple #[.agg (turnV (rowAdds k).toNat 3600000000), .int .i64 0]) ∧ Below w.heap.size w w' := by
  obtain ⟨r0, r1, r2⟩ := rows_get k hk
  have u1 := adds_bd k
  have ht := fun wx => rturn_ok (rowAdds k).toNat wx (by omega)
  rw [Int.toNat_of_nonneg u1.1] at ht
  obtain ⟨x, y, e1⟩ := turnV_two (rowAdds k).toNat 3600000000
  rw [e1] at ht ⊢
  have HT := hide_ ht
  clear ht e1 u1
  have hk6 : (k : Int) < 6 := by omega
  go_enter Try.func25, Try.ntmps25
  go_wp2_with (first | (go_at_call 81; (with_reducible refine (right_ok _ _ _ (by omega) (by omega) (by omega) (by omega)).mono ?_); rintro e w' ⟨rfl, rfl⟩) | (go_at_call 82; (with_reducible refine (rrows_any _).mono ?_); rintro e w1 ⟨rfl, rfl⟩) | (go_at_call 83; (with_reducible refine (HT.out _).mono ?_); rintro e w2 ⟨rfl, hb2⟩; obtain ⟨q0, q1⟩ := cells_two (blk_two hb2).1; obtain ⟨f0, f1⟩ := free_two (blk_two hb2).1))
  refine bodyPost_ret (v := .tuple #[.agg #[.int .i64 x, .int .i64 y], .int .i64 0]) (by simp [results, Try.results25, go_sem, q0, q1]) rfl ⟨rfl, ?_⟩
  exact Grew.below (by repeat (first | exact Grew.refl _ | assumption | refine Grew.alloc ?_ _ | refine Grew.drewN ?_ _ | refine Grew.drew ?_ | refine Grew.setRow ?_ (by first | assumption | (simp; done) | (simp; omega) | omega) _ | refine Grew.setCell ?_ (by first | assumption | (simp; done) | (simp; omega) | omega) _ | refine Grew.step ?_ (by assumption)))
theorem rspeed_no (k : Int) (w : World) (h : k < 0 ∨ 6 ≤ k) :
    Calls Try.prog 25 #[.int .i64 k] w fun e w' => e = .returned (.tuple #[.agg #[.int .i64 0, .int .i64 0], .int .i64 2]) ∧ Below w.heap.size w w' := by
  have H := hide_ (show k < 0 ∨ (6 : Int) ≤ k ∨ (0 : Int) < 0 ∨ (1048576 : Int) < 0 by omega)
  clear h
  go_enter Try.func25, Try.ntmps25
  go_wp2_with (go_at_call 81; refine (right_no _ _ _ H.out).mono ?_; rintro e w' ⟨rfl, rfl⟩)
  refine bodyPost_ret (v := .tuple #[.agg #[.int .i64 0, .int .i64 0], .int .i64 2]) (by simp [results, Try.results25, go_sem]) rfl ⟨rfl, ?_⟩
  (repeat (first | exact Below.refl _ _ | assumption | refine Below.setCell ?_ (by first | assumption | (simp; done) | (simp; omega) | omega) _ | refine below_drewN ?_ _ | refine Below.drew ?_ | refine Below.alloc ?_ (by first | assumption | (simp; done) | (simp; omega) | omega) _))
theorem rname_ok (k : Nat) (w : World) (hk : k < 6) : Calls Try.prog 27 #[.int .i64 (k : Int)] w fun e w' => e = .returned (.string (rowName k)) ∧ Below w.heap.size w w' := by
  obtain ⟨r0, r1, r2⟩ := rows_get k hk
  have hk6 : (k : Int) < 6 := by omega
  go_enter Try.func27, Try.ntmps27
  go_wp2_with (first | (go_at_call 81; (with_reducible refine (right_ok _ _ _ (by omega) (by omega) (by omega) (by omega)).mono ?_); rintro e w' ⟨rfl, rfl⟩) | (go_at_call 82; (with_reducible refine (rrows_any _).mono ?_); rintro e w1 ⟨rfl, rfl⟩))
  go_ret
  exact ⟨rfl, by (repeat (first | exact Below.refl _ _ | assumption | refine Below.setCell ?_ (by first | assumption | (simp; done) | (simp; omega) | omega) _ | refine below_drewN ?_ _ | refine Below.drew ?_ | refine Below.alloc ?_ (by first | assumption | (simp; done) | (simp; omega) | omega) _))⟩
theorem rname_no (k : Int) (w : World) (h : k < 0 ∨ 6 ≤ k) : Calls Try.prog 27 #[.int .i64 k] w fun e w' => e = .returned (.string ⟨#[]⟩) ∧ Below w.heap.size w w' := by
  have H := hide_ (show k < 0 ∨ (6 : Int) ≤ k ∨ (0 : Int) < 0 ∨ (1048576 : Int) < 0 by omega)
  clear h
  go_enter Try.func27, Try.ntmps27
  go_wp2_with (go_at_call 81; refine (right_no _ _ _ H.out).mono ?_; rintro e w' ⟨rfl, rfl⟩)
  go_ret
  exact ⟨rfl, Below.refl _ _⟩
theorem rfind_ok (s : ByteArray) (w : World) : Calls Try.prog 26 #[.string s] w fun e w' =>
    e = .returned (match findFrom s 0 with | some k => .tuple #[.int .i64 (k : Int), .bool true] | none => .tuple #[.int .i64 0, .bool false]) ∧ Below w.heap.size w w' := by
  obtain ⟨r, hr⟩ : ∃ r : Value, r = (match findFrom s 0 with | some k => .tuple #[.int .i64 (k : Int), .bool true] | none => .tuple #[.int .i64 0, .bool false]) := ⟨_, rfl⟩
  rw [← hr]
  have Hr := hide_ hr
  clear hr
  go_enter Try.func26, Try.ntmps26
  go_wp2
  go_loopw [4] (fun i wr => ∃ k : Nat, k ≤ 6 ∧ i = .int .i64 k ∧ Hid (findFrom s k = findFrom s 0) ∧ Grew w.heap.size w wr) (fun i _ => 6 - (intOf i).toNat)
  case atStart => exact ⟨0, by omega, rfl, rfl, Grew.refl _⟩
  case round =>
    obtain ⟨k, hk, rfl, hf, hbl⟩ := hrel
    by_cases hlt : k < 6
    · by_cases hn : rowName k = s
      · have hn1 := bytes_eq hn
        have hfin := Hr.out
        rw [← hf.out, find_hit hlt hn] at hfin
        have Hfin := hide_ hfin
        clear hfin hn
        go_wp2_with (go_at_call 27; (with_reducible refine (rname_ok _ _ hlt).mono ?_); rintro e w1 ⟨rfl, hb1⟩)
        go_ret2
        exact ⟨by rw [Hfin.out]; rfl, (hbl.step hb1).below⟩
      · have hn1 := bytes_ne hn
        have hf2 := hide_ ((find_miss hlt hn).trans hf.out)
        clear hn
        go_wp2_with (go_at_call 27; (with_reducible refine (rname_ok _ _ hlt).mono ?_); rintro e w1 ⟨rfl, hb1⟩)
        go_roundw
        case rel => exact ⟨k + 1, by omega, by go_num, hf2, hbl.step hb1⟩
        case measure => simp [intOf]; omega
    · obtain rfl : k = 6 := by omega
      have hfin := Hr.out
      rw [← hf.out, find_end] at hfin
      have Hfin := hide_ hfin
      clear hfin
      go_wp2
      go_ret2
      exact ⟨by rw [Hfin.out]; rfl, hbl.below⟩
set_option maxRecDepth 100000 in
theorem rall_ok (t : Int) (w : World) (h0 : 0 ≤ t) (h1 : t ≤ 1048576) :
    Calls Try.prog 28 #[.int .i64 t] w fun e w' => ∃ v, e = .returned (.tuple #[v, .int .i64 0]) ∧ w'.ownsRow w.heap.size 2 1 v 6 ((List.range 6).map fun k => Value.int .i64 (unit k t)) ∧ Below w.heap.size w w' := by
  obtain ⟨i0, hi0, hz0, hz1, hz2⟩ := info_parts info2
  go_enter Try.func28, Try.ntmps28
  go_wp2_with (go_at_call 81; (with_reducible refine (right_ok _ _ _ (by omega) (by omega) h0 h1).mono ?_); rintro e w' ⟨rfl, rfl⟩)
  go_loopw [4, 5] (fun v i wr => ∃ k : Nat, k ≤ 6 ∧ i = .int .i64 k ∧ wr.ownsRow w.heap.size 2 1 v k ((List.range k).map fun k => Value.int .i64 (unit k t)) ∧ Grew w.heap.size w wr) (fun _ i _ => 6 - (intOf i).toNat)
  case atStart => exact ⟨0, by omega, rfl, World.ownsRow_nil _ _ _ _, Grew.refl _⟩
  case round =>
    obtain ⟨k, hk, rfl, hown, hbl⟩ := hrel
    have hsz := hbl.2
    by_cases hlt : k < 6
    · go_wp2_with (first
        | (go_at_call 23; (with_reducible refine (runits_ok _ _ _ hlt h0 h1).mono ?_); rintro e w2 ⟨rfl, hb2⟩; have hown2 := own_below hown hb2)
        | (at_builtin; refine wpList_push rfl _ _ 23 rfl w.heap.size 2 i0 (.int .i64 0) 1 8 Try.underlying23 hi0 hz0 hz1 hz2 rfl (by decide) (by decide) _ _ _ rfl hown2 _ _ 1 1 rfl rfl (by kernel_rfl) (by omega) (by have := hb2.size; omega) ?_; intro v3 w3 hown3 hb3 _ _))
      go_roundw
      case rel => exact ⟨k + 1, by omega, by go_num, by simpa [List.range_succ] using hown3, (hbl.step hb2).more hb3⟩
      case measure => simp [intOf]; omega
    · obtain rfl : k = 6 := by omega
      go_wp2
      go_ret2
      exact ⟨_, rfl, hown, hbl.below⟩
theorem rall_no (t : Int) (w : World) (h : t < 0 ∨ 1048576 < t) : Calls Try.prog 28 #[.int .i64 t] w fun e w' => e = .returned (.tuple #[.slice none 0 0, .int .i64 2]) ∧ w = w' := by
  have H := hide_ (show (0 : Int) < 0 ∨ (6 : Int) ≤ 0 ∨ t < 0 ∨ 1048576 < t by omega)
  clear h
  go_enter Try.func28, Try.ntmps28
  go_wp2_with (go_at_call 81; refine (right_no _ _ _ H.out).mono ?_; rintro e w' ⟨rfl, rfl⟩)
  go_ret2
  exact ⟨rfl, rfl⟩
end Go.Proofs.Ytklhdpkofpkmjaa
