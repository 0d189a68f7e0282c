/- Chapter 19: two lists of samples, of numbers; a list that is written over. -/
import Derived.Test.YtlgnidjkilbdfaaFrom
namespace Go.Proofs.Ytlgnidjkilbdfaa
open Go.RowKit Go.Maps
set_option linter.unusedVariables false
set_option maxRecDepth 100000
theorem sameB_self (b : Nat) : sameB b b = true := by simp [sameB]
set_option maxHeartbeats 1600000 in
theorem same_true {w : World} {b1 b2 : Nat} {v1 v2 : Value} {S : Rc} (h1 : SL w b1 v1 S) (h2 : SL w b2 v2 S) (hn : S.length ≤ 5000) : Calls Try.prog 19 #[v1, v2] w fun e w' => e = .returned (.bool true) ∧ Below w.heap.size w w' := by
  obtain ⟨p, c, rfl⟩ := h1.slice
  obtain ⟨q, d, rfl⟩ := h2.slice
  have H1 := hide_ h1
  have H2 := hide_ h2
  clear h1 h2
  go_enter Try.func19, Try.ntmps19
  go_wp2
  go_loopw [5] (fun i wr => ∃ k : Nat, k ≤ S.length ∧ i = .int .i64 k ∧ Below w.heap.size w wr) (fun i _ => S.length - (intOf i).toNat)
  case atStart => exact ⟨0, by omega, rfl, Below.refl _ _⟩
  case round =>
    obtain ⟨k, hk, rfl, hw⟩ := hrel
    by_cases hlt : k < S.length
    · obtain ⟨g, rfl, hl, hc0, hc1⟩ := (H1.out.below hw).cells hlt
      obtain ⟨g2, rfl, hl2, hd0, hd1⟩ := (H2.out.below hw).cells hlt
      generalize (S.getD k (0, 0)).1 = t at *
      generalize (S.getD k (0, 0)).2 = b at *
      have hS := fun wx => same_any b b wx
      simp only [sameB_self] at hS
      have HS := hide_ hS
      have ht : (t != t) = false := by simp
      have ht2 : decide (t = t) = true := by simp
      clear hS
      go_wp2
      go_quiet ((go_at_call 38; exact Calls.quiet_of_same ((HS.out _).mono (fun _ _ h => ⟨h.1, h.2.symm⟩))))
      go_wp2
      go_roundw
      case rel => exact ⟨k + 1, by omega, by go_num, below_drewN hw _⟩
      case measure => simp [intOf]; omega
    · obtain rfl : k = S.length := by omega
      have hge : ¬ S.length < S.length := by omega
      go_wp2
      go_ret
      exact ⟨rfl, hw⟩
theorem row_block {w : World} {base : Nat} {e : TypeId} {size n : Nat} {v : Value} {xs : List Value} (h : w.ownsRow base e size v n xs) : (v = .slice none 0 0 ∧ n = 0) ∨ ∃ g c cur, v = .slice (some ⟨g, 0, none⟩) n c ∧ base ≤ g ∧ w.heap[g]? = some (.cells cur e (0, 0)) ∧ n * size ≤ cur.size := by
  rcases h.2 with h1 | ⟨g, cap, cur, e1, hb, hg, h1, h2, h3, _⟩
  · exact .inl h1
  · exact .inr ⟨g, cap, cur, e1, hb, hg, by rw [h3]; exact Nat.mul_le_mul_right _ h1⟩
theorem blk_cell {w : World} {g : Nat} {cur : Array Value} {T : TypeId} (hg : w.heap[g]? = some (.cells cur T (0, 0))) {j : Nat} (hj : j < cur.size) : ∃ x, w.cell? ⟨g, j, none⟩ = some x :=
  ⟨cur[j], by rw [cell_of_row _ _ _ _ _ _ hg]; simp [hj]⟩
theorem blk_free {w : World} {g : Nat} {cur : Array Value} {T : TypeId} (hg : w.heap[g]? = some (.cells cur T (0, 0))) (j : Nat) : w.frozen? ⟨g, j, none⟩ = false := by
  simp [World.frozen?, hg]
theorem set_blk {w : World} {g j : Nat} {cur : Array Value} {T : TypeId} (hg : w.heap[g]? = some (.cells cur T (0, 0))) (x : Value) : ∃ cur', (w.setCell ⟨g, j, none⟩ x).heap[g]? = some (.cells cur' T (0, 0)) ∧ cur'.size = cur.size := by
  refine ⟨_, by simp [World.setCell, Array.getElem?_modify, hg]; rfl, by simp⟩
set_option maxHeartbeats 1600000 in
theorem over_any {w : World} {base : Nat} {v : Value} {S : Rc} (h : SL w base v S) (hn : S.length ≤ 5000) : Calls Try.prog 20 #[v] w fun e w' => e = .returned (.tuple #[]) ∧ w.grownBy w' v.ownBlock := by
  rcases row_block h with ⟨rfl, hz⟩ | ⟨g, c, cur, rfl, _, hg, hsz⟩
  · clear h
    go_enter Try.func20, Try.ntmps20
    go_wp2
    go_loopw [2] (fun i wr => i = .int .i64 0 ∧ w = wr) (fun i _ => 0)
    case atStart => exact ⟨rfl, rfl⟩
    case round =>
      obtain ⟨rfl, rfl⟩ := hrel
      go_wp2
      go_end0
      exact ⟨rfl, ⟨rfl, rfl, rfl, Nat.le_refl _, fun _ _ _ => rfl⟩⟩
  · clear h
    go_enter Try.func20, Try.ntmps20
    go_wp2
    go_loopw [2] (fun i wr => ∃ k : Nat, k ≤ S.length ∧ i = .int .i64 k ∧ Hid (∃ cur', wr.heap[g]? = some (.cells cur' 26) ∧ cur'.size = cur.size) ∧ w.grownBy wr (some g)) (fun i _ => S.length - (intOf i).toNat)
    case atStart => exact ⟨0, by omega, rfl, hide_ ⟨_, hg, rfl⟩, ⟨rfl, rfl, rfl, Nat.le_refl _, fun _ _ _ => rfl⟩⟩
    case round =>
      obtain ⟨k, hk, rfl, hc, hgr⟩ := hrel
      by_cases hlt : k < S.length
      · obtain ⟨cur', hg', hs'⟩ := hc.out
        obtain ⟨x0, hx0⟩ := blk_cell hg' (j := k * 2) (by omega)
        obtain ⟨x1, hx1⟩ := blk_cell hg' (j := k * 2 + 1) (by omega)
        have f0 := blk_free hg' (k * 2)
        have f1 := blk_free hg' (k * 2 + 1)
        have HG := hide_ hg'
        clear hg'
        go_wp2
        go_roundw
        case rel =>
          refine ⟨k + 1, by omega, by go_num, hide_ ?_, (hgr.trans (setCell_grown _ _ _)).trans (setCell_grown _ _ _)⟩
          obtain ⟨c1, e1, z1⟩ := set_blk (j := k * 2) HG.out (.int .i64 (-7))
          obtain ⟨c2, e2, z2⟩ := set_blk (j := k * 2 + 1) e1 (.float .f64 13842939354630062080)
          exact ⟨c2, e2, by omega⟩
        case measure => simp [intOf]; omega
      · obtain rfl : k = S.length := by omega
        have hge : ¬ S.length < S.length := by omega
        go_wp2
        go_end0
        exact ⟨rfl, hgr⟩
set_option maxHeartbeats 1600000 in
theorem sameInts_true {w : World} {b1 b2 : Nat} {v1 v2 : Value} {S : List Int} (h1 : w.ownsRow b1 3 1 v1 S.length (S.map iv)) (h2 : w.ownsRow b2 3 1 v2 S.length (S.map iv)) (hn : S.length ≤ 5000) : Calls Try.prog 23 #[v1, v2] w fun e w' => e = .returned (.bool true) ∧ Below w.heap.size w w' := by
  obtain ⟨p, c, rfl⟩ := row_slice h1
  obtain ⟨q, d, rfl⟩ := row_slice h2
  have H1 := hide_ h1
  have H2 := hide_ h2
  clear h1 h2
  go_enter Try.func23, Try.ntmps23
  go_wp2
  go_loopw [5] (fun i wr => ∃ k : Nat, k ≤ S.length ∧ i = .int .i64 k ∧ Below w.heap.size w wr) (fun i _ => S.length - (intOf i).toNat)
  case atStart => exact ⟨0, by omega, rfl, Below.refl _ _⟩
  case round =>
    obtain ⟨k, hk, rfl, hw⟩ := hrel
    by_cases hlt : k < S.length
    · obtain ⟨g, rfl, _, hl, hc⟩ := row_cells (own_below H1.out hw) (by omega)
      obtain ⟨g2, rfl, _, hl2, hd⟩ := row_cells (own_below H2.out hw) (by omega)
      have hat : (S.map iv)[k]? = some (.int .i64 (S.getD k 0)) := by
        rw [List.getElem?_map, List.getElem?_eq_getElem hlt, List.getD_eq_getElem?_getD, List.getElem?_eq_getElem hlt]; rfl
      have hc0 := hc k _ hat
      have hd0 := hd k _ hat
      generalize S.getD k 0 = t at *
      have ht : (t != t) = false := by simp
      clear hc hd hat
      go_wp2
      go_quiet (fail)
      go_wp2
      go_roundw
      case rel => exact ⟨k + 1, by omega, by go_num, below_drewN hw _⟩
      case measure => simp [intOf]; omega
    · obtain rfl : k = S.length := by omega
      have hge : ¬ S.length < S.length := by omega
      go_wp2
      go_ret
      exact ⟨rfl, hw⟩
end Go.Proofs.Ytlgnidjkilbdfaa
