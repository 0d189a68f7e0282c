/- Chapter 11: Name in the reference: over its rows. -/
import Derived.Test.YtklhdpkofpkmjaaNm
namespace Go.Proofs.Ytklhdpkofpkmjaa
open Go.RowKit
set_option linter.unusedVariables false
def rows11V : Array Value := #[.int .i8 1, .int .i8 1, .int .i8 0, .int .i8 0, .int .i8 0, .int .i8 0,
  .int .i8 2, .int .i8 2, .int .i8 0, .int .i8 0, .int .i8 0, .int .i8 0,
  .int .i8 2, .int .i8 1, .int .i8 0, .int .i8 (-1), .int .i8 0, .int .i8 0,
  .int .i8 2, .int .i8 0, .int .i8 0, .int .i8 0, .int .i8 0, .int .i8 0,
  .int .i8 4, .int .i8 0, .int .i8 0, .int .i8 0, .int .i8 0, .int .i8 0,
  .int .i8 4, .int .i8 2, .int .i8 (-2), .int .i8 0, .int .i8 0, .int .i8 0,
  .int .i8 0, .int .i8 2, .int .i8 0, .int .i8 0, .int .i8 0, .int .i8 0,
  .int .i8 0, .int .i8 1, .int .i8 0, .int .i8 (-1), .int .i8 0, .int .i8 0,
  .int .i8 2, .int .i8 (-1), .int .i8 0, .int .i8 1, .int .i8 0, .int .i8 0,
  .int .i8 2, .int .i8 (-2), .int .i8 0, .int .i8 2, .int .i8 0, .int .i8 0,
  .int .i8 1, .int .i8 (-1), .int .i8 0, .int .i8 0, .int .i8 0, .int .i8 0,
  .int .i8 1, .int .i8 1, .int .i8 (-2), .int .i8 0, .int .i8 0, .int .i8 0,
  .int .i8 1, .int .i8 (-2), .int .i8 0, .int .i8 1, .int .i8 0, .int .i8 0,
  .int .i8 2, .int .i8 2, .int .i8 (-2), .int .i8 0, .int .i8 0, .int .i8 0,
  .int .i8 0, .int .i8 0, .int .i8 1, .int .i8 0, .int .i8 0, .int .i8 0,
  .int .i8 0, .int .i8 0, .int .i8 2, .int .i8 0, .int .i8 0, .int .i8 0]
def names11V : Array Value := #[.string ⟨#[75, 49]⟩, .string ⟨#[75, 50]⟩, .string ⟨#[76, 50]⟩, .string ⟨#[77, 50]⟩, .string ⟨#[77, 52]⟩, .string ⟨#[77, 83, 52]⟩, .string ⟨#[77, 102]⟩, .string ⟨#[77, 109]⟩, .string ⟨#[78, 50]⟩, .string ⟨#[78, 50, 120]⟩, .string ⟨#[79, 49]⟩, .string ⟨#[80, 49]⟩, .string ⟨#[81, 49]⟩, .string ⟨#[83, 50]⟩, .string ⟨#[83, 97]⟩, .string ⟨#[83, 115, 97]⟩]
set_option maxRecDepth 100000 in
theorem rows11_any (w : World) : Calls Try.prog 104 #[] w fun e w' => e = .returned (.slice (some ⟨w.heap.size, 0, none⟩) 16 16) ∧ w.alloc (.cells rows11V 54) = w' := by
  go_enter Try.func104, Try.ntmps104
  go_wp2
  go_ret
  exact ⟨rfl, by kernel_rfl⟩
set_option maxRecDepth 100000 in
theorem names11_any (w : World) : Calls Try.prog 77 #[] w fun e w' => e = .returned (.slice (some ⟨w.heap.size, 0, none⟩) 16 16) ∧ w.alloc (.cells names11V 9) = w' := by
  go_enter Try.func77, Try.ntmps77
  go_wp2
  go_ret
  exact ⟨rfl, by kernel_rfl⟩
def rowR (k : Nat) (j : Nat) : Int :=
  match rows11V[k * 6 + j]? with
  | some (.int _ n) => n
  | _ => 0
def nameR (k : Nat) : ByteArray :=
  match names11V[k]? with
  | some (.string s) => s
  | _ => .empty
theorem rows_cell (k j : Nat) (hk : k < 16) (hj : j < 6) : rows11V[k * 6 + j]? = some (.int .i8 (rowR k j)) := by
  have : ∀ k, k < 16 → ∀ j, j < 6 → rows11V[k * 6 + j]? = some (.int .i8 (rowR k j)) := by
    intro k hk
    rcases (show k = 0 ∨ k = 1 ∨ k = 2 ∨ k = 3 ∨ k = 4 ∨ k = 5 ∨ k = 6 ∨ k = 7 ∨ k = 8 ∨ k = 9 ∨ k = 10 ∨ k = 11 ∨ k = 12 ∨ k = 13 ∨ k = 14 ∨ k = 15 by omega) with rfl | rfl | rfl | rfl | rfl | rfl | rfl | rfl | rfl | rfl | rfl | rfl | rfl | rfl | rfl | rfl <;>
    exact fun j hj => six_cases (P := fun j => rows11V[_ * 6 + j]? = some (.int .i8 (rowR _ j))) (by kernel_rfl) (by kernel_rfl) (by kernel_rfl) (by kernel_rfl) (by kernel_rfl) (by kernel_rfl) j hj
  exact this k hk j hj
theorem names_cell (k : Nat) (hk : k < 16) : names11V[k]? = some (.string (nameR k)) := by
  rcases (show k = 0 ∨ k = 1 ∨ k = 2 ∨ k = 3 ∨ k = 4 ∨ k = 5 ∨ k = 6 ∨ k = 7 ∨ k = 8 ∨ k = 9 ∨ k = 10 ∨ k = 11 ∨ k = 12 ∨ k = 13 ∨ k = 14 ∨ k = 15 by omega) with rfl | rfl | rfl | rfl | rfl | rfl | rfl | rfl | rfl | rfl | rfl | rfl | rfl | rfl | rfl | rfl <;> kernel_rfl
theorem load_six {w : World} {g k : Nat} {f : Nat → Int} {cs : Array Value} {T : TypeId} (h : w.heap[g]? = some (.cells cs T)) (hc : ∀ j, j < 6 → cs[k + j]? = some (.int .i8 (f j))) :
    (loadVar 54 ⟨g, k, none⟩).run Try.prog w = .ok (.agg #[.int .i8 (f 0), .int .i8 (f 1), .int .i8 (f 2), .int .i8 (f 3), .int .i8 (f 4), .int .i8 (f 5)]) w := by
  have hl : (loadCells ⟨g, k, none⟩ 6).run Try.prog w = .ok #[.int .i8 (f 0), .int .i8 (f 1), .int .i8 (f 2), .int .i8 (f 3), .int .i8 (f 4), .int .i8 (f 5)] w :=
    run_loadCells_list (P := Try.prog) w ⟨g, k, none⟩ [.int .i8 (f 0), .int .i8 (f 1), .int .i8 (f 2), .int .i8 (f 3), .int .i8 (f 4), .int .i8 (f 5)] (fun j v hv => by
      have hadd : (⟨g, k, none⟩ : Addr).add j = ⟨g, k + j, none⟩ := by unfold Addr.add; split <;> simp_all
      rw [hadd, cell_of_row w g (k + j) cs T _ h]
      rcases Nat.lt_or_ge j 6 with hj | hj
      · rw [hc j hj]
        rcases (show j = 0 ∨ j = 1 ∨ j = 2 ∨ j = 3 ∨ j = 4 ∨ j = 5 by omega) with rfl | rfl | rfl | rfl | rfl | rfl <;> simpa using hv
      · rw [List.getElem?_eq_none (by simpa using hj)] at hv
        cases hv)
  have hagg : (isAgg 54).run Try.prog w = .ok true w := by kernel_rfl
  simp [loadVar, Sem.run_bind, hagg, hl]
set_option maxRecDepth 100000 in
set_option maxHeartbeats 800000 in
theorem name11_any (f : Nat → Int) (w : World) : Calls Try.prog 65 #[.agg #[.int .i8 (f 0), .int .i8 (f 1), .int .i8 (f 2), .int .i8 (f 3), .int .i8 (f 4), .int .i8 (f 5)]] w fun e w' =>
    ((∃ k, k < 16 ∧ (#[.int .i8 (rowR k 0), .int .i8 (rowR k 1), .int .i8 (rowR k 2), .int .i8 (rowR k 3), .int .i8 (rowR k 4), .int .i8 (rowR k 5)] : Array Value) = #[.int .i8 (f 0), .int .i8 (f 1), .int .i8 (f 2), .int .i8 (f 3), .int .i8 (f 4), .int .i8 (f 5)] ∧ e = .returned (.tuple #[.string (nameR k), .bool true])) ∨ ((∀ k, k < 16 → (#[.int .i8 (rowR k 0), .int .i8 (rowR k 1), .int .i8 (rowR k 2), .int .i8 (rowR k 3), .int .i8 (rowR k 4), .int .i8 (rowR k 5)] : Array Value) ≠ #[.int .i8 (f 0), .int .i8 (f 1), .int .i8 (f 2), .int .i8 (f 3), .int .i8 (f 4), .int .i8 (f 5)]) ∧ e = .returned (.tuple #[.string ⟨#[]⟩, .bool false]))) ∧ Below w.heap.size w w' := by
  go_enter Try.func65, Try.ntmps65
  go_wp2_with (go_at_call 104; (with_reducible refine (rows11_any _).mono ?_); rintro e w1 ⟨rfl, rfl⟩)
  go_loopw [5] (fun i wr => ∃ k : Nat, k ≤ 16 ∧ i = .int .i64 k ∧ wr.heap[w.heap.size]? = some (.cells #[.int .i8 (f 0), .int .i8 (f 1), .int .i8 (f 2), .int .i8 (f 3), .int .i8 (f 4), .int .i8 (f 5)] 54) ∧ wr.heap[w.heap.size + 1]? = some (.cells rows11V 54) ∧ Hid (∀ m, m < k → (#[.int .i8 (rowR m 0), .int .i8 (rowR m 1), .int .i8 (rowR m 2), .int .i8 (rowR m 3), .int .i8 (rowR m 4), .int .i8 (rowR m 5)] : Array Value) ≠ #[.int .i8 (f 0), .int .i8 (f 1), .int .i8 (f 2), .int .i8 (f 3), .int .i8 (f 4), .int .i8 (f 5)]) ∧ Grew w.heap.size w wr)
    (fun i _ => 16 - (intOf i).toNat)
  case atStart => exact ⟨0, by omega, rfl, heap_past (heap_alloc_last _ _), heap_at1 _ _ _, hide_ (fun m h => by omega), ((Grew.refl w).alloc _).alloc _⟩
  case round =>
    obtain ⟨k, hk, rfl, hf, hr, hs, hgr⟩ := hrel
    by_cases hlt : k < 16
    · have hcr : ∀ j, j < 6 → wr.cell? ⟨w.heap.size + 1, k * 6 + j, none⟩ = some (.int .i8 (rowR k j)) := fun j hj => by rw [cell_of_row wr _ _ _ _ _ hr]; exact rows_cell k j hlt hj
      obtain ⟨c0, c1, c2, c3, c4, c5⟩ := cells_ar hf
      have d0 : wr.cell? ⟨w.heap.size + 1, k * 6, none⟩ = some (.int .i8 (rowR k 0)) := hcr 0 (by omega)
      have d1 := hcr 1 (by omega)
      have d2 := hcr 2 (by omega)
      have d3 := hcr 3 (by omega)
      have d4 := hcr 4 (by omega)
      have d5 := hcr 5 (by omega)
      clear hcr
      have heq := fun wx => run_eq6 (rowR k) f wx
      cases hq : eq6 (rowR k) f with
      | true =>
        rw [hq] at heq
        have HQ := hide_ ((eq6_iff _ f).1 hq)
        clear hq
        have hnc := names_cell k hlt
        go_wp2
        go_quiet (fail)
        go_wp2_with (go_at_call 77; (with_reducible refine (names11_any _).mono ?_); rintro e w2 ⟨rfl, rfl⟩; have hcn : ((wr.drewN nq).alloc (.cells names11V 9)).cell? ⟨wr.heap.size, k, none⟩ = some (.string (nameR k)) := (cell_of_row _ _ k _ _ _ (heap_alloc_last (wr.drewN nq) (.cells names11V 9))).trans hnc)
        go_ret2
        refine ⟨.inl ⟨k, hlt, HQ.out, rfl⟩, by exact Grew.below (by repeat (first | exact Grew.refl _ | assumption | refine Grew.alloc ?_ _ | refine Grew.drewN ?_ _ | refine Grew.drew ?_ | refine Grew.setRow ?_ (by first | assumption | (simp; done) | (simp; omega) | omega) _ | refine Grew.setCell ?_ (by first | assumption | (simp; done) | (simp; omega) | omega) _ | refine Grew.step ?_ (by assumption)))⟩
      | false =>
        rw [hq] at heq
        have HQ : Hid (¬ (#[.int .i8 (rowR k 0), .int .i8 (rowR k 1), .int .i8 (rowR k 2), .int .i8 (rowR k 3), .int .i8 (rowR k 4), .int .i8 (rowR k 5)] : Array Value) = #[.int .i8 (f 0), .int .i8 (f 1), .int .i8 (f 2), .int .i8 (f 3), .int .i8 (f 4), .int .i8 (f 5)]) := hide_ (fun h => by rw [(eq6_iff _ f).2 h] at hq; cases hq)
        clear hq
        go_wp2
        go_quiet (fail)
        go_wp2
        go_roundw
        case rel =>
          refine ⟨k + 1, by omega, by go_num, hf, hr, hide_ (fun m hm => ?_), by first | exact hgr.drewN _ | assumption⟩
          rcases (show m < k ∨ m = k by omega) with h | rfl
          · exact hs.out m h
          · exact HQ.out
        case measure => simp [intOf]; omega
    · obtain rfl : k = 16 := by omega
      go_wp2
      go_ret2
      exact ⟨.inr ⟨fun m hm => hs.out m hm, rfl⟩, hgr.below⟩
theorem rows_apart (k : Nat) (hk : k < 16) (m : Nat) (hm : m < 16) (h : eq6 (rowR k) (rowR m) = true) : k = m := by
  have : ∀ k : Fin 16, ∀ m : Fin 16, eq6 (rowR k.1) (rowR m.1) = true → k = m := by decide +kernel
  exact congrArg Fin.val (this ⟨k, hk⟩ ⟨m, hm⟩ h)
theorem tab_row : ∀ m ∈ tabE.toList, ∃ k, k < 16 ∧ m.val = .agg #[.int .i8 (rowR k 0), .int .i8 (rowR k 1), .int .i8 (rowR k 2), .int .i8 (rowR k 3), .int .i8 (rowR k 4), .int .i8 (rowR k 5)] ∧ keyS m = nameR k := by
  intro e he
  simp only [tabE, List.mem_cons, List.not_mem_nil, or_false] at he
  rcases he with rfl | rfl | rfl | rfl | rfl | rfl | rfl | rfl | rfl | rfl | rfl | rfl | rfl | rfl | rfl | rfl
  · exact ⟨0, by omega, rfl, rfl⟩
  · exact ⟨1, by omega, rfl, rfl⟩
  · exact ⟨2, by omega, rfl, rfl⟩
  · exact ⟨3, by omega, rfl, rfl⟩
  · exact ⟨4, by omega, rfl, rfl⟩
  · exact ⟨5, by omega, rfl, rfl⟩
  · exact ⟨6, by omega, rfl, rfl⟩
  · exact ⟨7, by omega, rfl, rfl⟩
  · exact ⟨8, by omega, rfl, rfl⟩
  · exact ⟨9, by omega, rfl, rfl⟩
  · exact ⟨10, by omega, rfl, rfl⟩
  · exact ⟨11, by omega, rfl, rfl⟩
  · exact ⟨12, by omega, rfl, rfl⟩
  · exact ⟨13, by omega, rfl, rfl⟩
  · exact ⟨14, by omega, rfl, rfl⟩
  · exact ⟨15, by omega, rfl, rfl⟩
theorem row_tab (k : Nat) (hk : k < 16) : ∃ m ∈ tabE.toList, m.val = .agg #[.int .i8 (rowR k 0), .int .i8 (rowR k 1), .int .i8 (rowR k 2), .int .i8 (rowR k 3), .int .i8 (rowR k 4), .int .i8 (rowR k 5)] := by
  rcases (show k = 0 ∨ k = 1 ∨ k = 2 ∨ k = 3 ∨ k = 4 ∨ k = 5 ∨ k = 6 ∨ k = 7 ∨ k = 8 ∨ k = 9 ∨ k = 10 ∨ k = 11 ∨ k = 12 ∨ k = 13 ∨ k = 14 ∨ k = 15 by omega) with rfl | rfl | rfl | rfl | rfl | rfl | rfl | rfl | rfl | rfl | rfl | rfl | rfl | rfl | rfl | rfl
  · exact ⟨tabE[0], by simp [tabE], rfl⟩
  · exact ⟨tabE[1], by simp [tabE], rfl⟩
  · exact ⟨tabE[2], by simp [tabE], rfl⟩
  · exact ⟨tabE[3], by simp [tabE], rfl⟩
  · exact ⟨tabE[4], by simp [tabE], rfl⟩
  · exact ⟨tabE[5], by simp [tabE], rfl⟩
  · exact ⟨tabE[6], by simp [tabE], rfl⟩
  · exact ⟨tabE[7], by simp [tabE], rfl⟩
  · exact ⟨tabE[8], by simp [tabE], rfl⟩
  · exact ⟨tabE[9], by simp [tabE], rfl⟩
  · exact ⟨tabE[10], by simp [tabE], rfl⟩
  · exact ⟨tabE[11], by simp [tabE], rfl⟩
  · exact ⟨tabE[12], by simp [tabE], rfl⟩
  · exact ⟨tabE[13], by simp [tabE], rfl⟩
  · exact ⟨tabE[14], by simp [tabE], rfl⟩
  · exact ⟨tabE[15], by simp [tabE], rfl⟩
theorem name_alike (f : Nat → Int) : ∃ (s : ByteArray) (b : Bool),
    (∀ wx : World, Calls Try.prog 64 #[.agg #[.int .i8 (f 0), .int .i8 (f 1), .int .i8 (f 2), .int .i8 (f 3), .int .i8 (f 4), .int .i8 (f 5)]] wx fun e w' => e = .returned (.tuple #[.string s, .bool b]) ∧ Below wx.heap.size wx w') ∧
    (∀ wx : World, Calls Try.prog 65 #[.agg #[.int .i8 (f 0), .int .i8 (f 1), .int .i8 (f 2), .int .i8 (f 3), .int .i8 (f 4), .int .i8 (f 5)]] wx fun e w' => e = .returned (.tuple #[.string s, .bool b]) ∧ Below wx.heap.size wx w') := by
  by_cases h : ∃ k, k < 16 ∧ (#[.int .i8 (rowR k 0), .int .i8 (rowR k 1), .int .i8 (rowR k 2), .int .i8 (rowR k 3), .int .i8 (rowR k 4), .int .i8 (rowR k 5)] : Array Value) = #[.int .i8 (f 0), .int .i8 (f 1), .int .i8 (f 2), .int .i8 (f 3), .int .i8 (f 4), .int .i8 (f 5)]
  · obtain ⟨k, hk, hkf⟩ := h
    refine ⟨nameR k, true, fun wx => (name_any f wx).mono ?_, fun wx => (name11_any f wx).mono ?_⟩
    · rintro e w' ⟨⟨m, hm, hmf, rfl⟩ | ⟨hno, rfl⟩, hb⟩
      · obtain ⟨j, hj, hv, hn⟩ := tab_row m hm
        have : k = j := rows_apart k hk j hj ((eq6_iff _ _).2 (hkf.trans (by rw [hv] at hmf; injection hmf with hmf; exact hmf.symm)))
        subst this
        exact ⟨by rw [hn], hb⟩
      · obtain ⟨m, hm, hv⟩ := row_tab k hk
        exact absurd (hv.trans (by rw [hkf])) (hno m hm)
    · rintro e w' ⟨⟨j, hj, hjf, rfl⟩ | ⟨hno, rfl⟩, hb⟩
      · have : k = j := rows_apart k hk j hj ((eq6_iff _ _).2 (hkf.trans hjf.symm))
        subst this
        exact ⟨rfl, hb⟩
      · exact absurd hkf (hno k hk)
  · refine ⟨⟨#[]⟩, false, fun wx => (name_any f wx).mono ?_, fun wx => (name11_any f wx).mono ?_⟩
    · rintro e w' ⟨⟨m, hm, hmf, rfl⟩ | ⟨hno, rfl⟩, hb⟩
      · obtain ⟨j, hj, hv, hn⟩ := tab_row m hm
        exact absurd ⟨j, hj, by rw [hv] at hmf; injection hmf⟩ h
      · exact ⟨rfl, hb⟩
    · rintro e w' ⟨⟨j, hj, hjf, rfl⟩ | ⟨hno, rfl⟩, hb⟩
      · exact absurd ⟨j, hj, hjf⟩ h
      · exact ⟨rfl, hb⟩
end Go.Proofs.Ytklhdpkofpkmjaa
