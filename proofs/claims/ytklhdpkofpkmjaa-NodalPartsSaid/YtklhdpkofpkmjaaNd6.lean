/- NodalMeans: the law's walk. -/
import Derived.Test.YtklhdpkofpkmjaaNd5
namespace Go.Proofs.Ytklhdpkofpkmjaa
open Go.RowKit Ieee
set_option linter.unusedVariables false
set_option maxRecDepth 100000
def names12V : Array Value := #[.string ⟨#[75, 49]⟩, .string ⟨#[75, 50]⟩, .string ⟨#[77, 50]⟩, .string ⟨#[77, 102]⟩, .string ⟨#[77, 109]⟩, .string ⟨#[78, 50]⟩, .string ⟨#[79, 49]⟩, .string ⟨#[80, 49]⟩, .string ⟨#[81, 49]⟩, .string ⟨#[83, 50]⟩]
def nm12 (k : Nat) : ByteArray :=
  match names12V[k]? with
  | some (.string s) => s
  | _ => .empty
theorem names12_cell (k : Nat) (hk : k < 10) : names12V[k]? = some (.string (nm12 k)) := by
  rcases (show k = 0 ∨ k = 1 ∨ k = 2 ∨ k = 3 ∨ k = 4 ∨ k = 5 ∨ k = 6 ∨ k = 7 ∨ k = 8 ∨ k = 9 by omega) with rfl | rfl | rfl | rfl | rfl | rfl | rfl | rfl | rfl | rfl <;> kernel_rfl
theorem names36 (w : World) : Calls Try.prog 36 #[] w fun e w' => e = .returned (.slice (some ⟨w.heap.size, 0, none⟩) 10 10) ∧ w.alloc (.cells names12V 9) = w' := by
  go_enter Try.func36, Try.ntmps36
  go_wp2
  go_ret
  exact ⟨rfl, by kernel_rfl⟩
theorem names37 (w : World) : Calls Try.prog 37 #[] w fun e w' => e = .returned (.slice (some ⟨w.heap.size, 0, none⟩) 10 10) ∧ w.alloc (.cells names12V 9) = w' := by
  go_enter Try.func37, Try.ntmps37
  go_wp2
  go_ret
  exact ⟨rfl, by kernel_rfl⟩
theorem setCell_same {w : World} {g i : Nat} {cs : Array Value} {T : TypeId} {v : Value} (h : w.heap[g]? = some (.cells cs T)) : (w.setCell ⟨g, i, none⟩ v).heap[g]? = some (.cells (cs.setIfInBounds i v) T) := by
  simp [World.setCell, Array.getElem?_modify, h]
theorem setCell_other {w : World} {g g' i : Nat} {v : Value} (h : g' ≠ g) : (w.setCell ⟨g, i, none⟩ v).heap[g']? = w.heap[g']? := by
  simp [World.setCell, Array.getElem?_modify, Ne.symm h]
set_option maxHeartbeats 1600000 in
theorem nmeans_walk (s : ByteArray) (a b : Int) (_w0 : s.size ≤ maxLen) (_w1 : (Lit.int .i64 a).wf = true) (_w2 : (Lit.int .i64 b).wf = true) (w : World) :
    Calls Try.prog 7 #[.string s, .int .i64 a, .int .i64 b] w fun e w' => e = .returned (.bool true) ∧ Below w.heap.size w w' := by
  obtain ⟨f, v, e1, hv, m1, m2⟩ := mean_alike s a b
  have HM := hide_ m1
  have HR := hide_ m2
  have HS := hide_ (fun wx => sameF hv wx)
  clear hv m1 m2 _w0 _w1 _w2
  have tok1 : True := trivial
  go_enter Try.func7, Try.ntmps7
  go_wp2_with (first
    | (go_at_call 34; (with_reducible refine (HM.out _).mono ?_); rintro e w1 ⟨rfl, hb1⟩)
    | (go_at_call 35; (with_reducible refine (HR.out _).mono ?_); rintro e w2 ⟨rfl, hb2⟩)
    | (go_at_call 36; (with_reducible refine (names36 _).mono ?_); rintro e w3 ⟨rfl, rfl⟩)
    | (go_at_call 37; (with_reducible refine (names37 _).mono ?_); rintro e w4 ⟨rfl, rfl⟩)
    | (go_at_call 38; (with_reducible refine (HS.out _).mono ?_); rintro e w5 ⟨rfl, rfl⟩))
  have hg2 := (Grew.of hb1).step hb2
  have hg5 := ((hg2.alloc (.cells names12V 9)).alloc (.cells names12V 9)).alloc (.cells names12V 9)
  have k0 : (((w2.alloc (.cells names12V 9)).alloc (.cells names12V 9)).alloc (.cells names12V 9)).heap[w2.heap.size]? = some (.cells names12V 9) := heap_past (heap_past (heap_alloc_last _ _))
  have k1 : (((w2.alloc (.cells names12V 9)).alloc (.cells names12V 9)).alloc (.cells names12V 9)).heap[w2.heap.size + 1]? = some (.cells names12V 9) := heap_past (heap_at1 _ _ _)
  have k2 : (((w2.alloc (.cells names12V 9)).alloc (.cells names12V 9)).alloc (.cells names12V 9)).heap[w2.heap.size + 1 + 1]? = some (.cells names12V 9) := heap_at2 _ _ _ _
  have hsz := hg2.2
  generalize ((w2.alloc (.cells names12V 9)).alloc (.cells names12V 9)).alloc (.cells names12V 9) = w5 at k0 k1 k2 hg5 ⊢
  generalize w2.heap.size = B at *
  clear hb1 hb2 hg2 HM HR HS tok1
  go_loopw [14] (fun i wr => ∃ (k : Nat) (cs : Array Value), k ≤ 10 ∧ i = .int .i64 k ∧ cs.size = 10 ∧ wr.heap[B]? = some (.cells names12V 9) ∧ wr.heap[B + 1]? = some (.cells cs 9) ∧ wr.heap[B + 1 + 1]? = some (.cells names12V 9) ∧ Grew w.heap.size w wr) (fun i _ => 10 - (intOf i).toNat)
  case atStart => exact ⟨0, names12V, by omega, rfl, rfl, k0, k1, k2, hg5⟩
  case round =>
    clear k0 k1 k2 hg5
    obtain ⟨k, cs, hk, rfl, hcs, k0, k1, k2, hgr⟩ := hrel
    by_cases hlt : k < 10
    · have hc : wr.cell? ⟨B + 1, k, none⟩ = some cs[k] := (cell_of_row _ _ _ _ _ _ k1).trans (Array.getElem?_eq_getElem (by omega))
      have hfr := free_ar k1 k
      go_wp2
      go_roundw
      case rel => exact ⟨k + 1, _, by omega, by go_num, by simpa using hcs, (setCell_other (by omega)).trans k0, setCell_same k1, (setCell_other (by omega)).trans k2, hgr.setCell (by simp; omega) _⟩
      case measure => simp [intOf]; omega
    · obtain rfl : k = 10 := by omega
      clear hlt hk k1 hcs
      go_wp2_with (go_at_call 37; (with_reducible refine (names37 _).mono ?_); rintro e w6 ⟨rfl, rfl⟩)
      have j0 := heap_past (o' := .cells names12V 9) k0
      have j2 := heap_past (o' := .cells names12V 9) k2
      have j3 := heap_alloc_last wr (.cells names12V 9)
      have hg6 := hgr.alloc (.cells names12V 9)
      generalize wr.alloc (.cells names12V 9) = w6 at j0 j2 j3 hg6 ⊢
      generalize wr.heap.size = B3 at *
      clear k0 k2 hgr
      go_loopw [16] (fun i wq => ∃ (k n : Nat), k ≤ 10 ∧ i = .int .i64 k ∧ wq = w6.drewN n) (fun i _ => 10 - (intOf i).toNat)
      case atStart => exact ⟨0, 0, by omega, rfl, rfl⟩
      case round =>
        obtain ⟨k, n, hk, rfl, rfl⟩ := hrel
        by_cases hlt : k < 10
        · have hnm := names12_cell k hlt
          have c0 := (cell_of_row w6 _ k _ _ _ j0).trans hnm
          have c2 := (cell_of_row w6 _ k _ _ _ j2).trans hnm
          have c3 := (cell_of_row w6 _ k _ _ _ j3).trans hnm
          go_wp2
          go_quiet (fail)
          go_wp2
          go_roundw
          case rel => exact ⟨k + 1, n + nq, by omega, by go_num, rfl⟩
          case measure => simp [intOf]; omega
        · obtain rfl : k = 10 := by omega
          go_wp2
          go_ret
          exact ⟨rfl, (hg6.drewN _).below⟩
end Go.Proofs.Ytklhdpkofpkmjaa
