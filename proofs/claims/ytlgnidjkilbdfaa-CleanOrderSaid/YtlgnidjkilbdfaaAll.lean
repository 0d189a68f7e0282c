/- Chapter 19: All: the iterator over a record's samples. -/
import Derived.Test.YtlgnidjkilbdfaaRf
import Derived.RangeFuncBox
import Derived.RangeFuncLeaves
import Derived.Shelf.Abstract
import Derived.OwnWalkIn
import Derived.TacticsInMore
import Derived.LoopNIn
import Derived.LoopIn
import Derived.Maps.AppendAt
namespace Go.Proofs.Ytlgnidjkilbdfaa
open Go.RowKit Go.Shelf
set_option linter.unusedVariables false
set_option maxRecDepth 100000
attribute [local go_sem] Oper.semAt_some
def encS (x : Int × Nat) : Array Value := #[.int .i64 x.1, .float .f64 x.2]
/-- Block g stands. -/
def KpB (g : Nat) (W W' : World) : Prop := W'.heap[g]? = W.heap[g]?
theorem kpB_t {g : Nat} {A B C : World} (h : KpB g A B) (k : KpB g B C) : KpB g A C := Eq.trans (show C.heap[g]? = B.heap[g]? from k) h
theorem kpB_b {g : Nat} {w : World} (hg : g < w.heap.size) (W : World) (l : Nat) (o o' : Obj) (hl : w.heap.size ≤ l) (h : W.heap[l]? = some o) (_ : o.isCells = false) (_ : o.isWalk = false) : KpB g W (W.putObj l o') :=
  World.putObj_heap_other (by omega)
/-- A slice of samples in block g; or none. -/
def SG (g : Nat) (W : World) (sv : Value) (S : Rc) : Prop :=
  (sv = .slice none 0 0 ∧ S = []) ∨ ∃ (c : Nat) (cur : Array Value), sv = .slice (some ⟨g, 0, none⟩) S.length c ∧ W.heap[g]? = some (.cells cur 26) ∧ ∀ (j : Nat) (u : Value), (flat S)[j]? = some u → cur[j]? = some u
theorem SG.kept {g : Nat} {A B : World} (h : KpB g A B) {sv : Value} {S : Rc} : SG g A sv S → SG g B sv S
  | .inl e => .inl e
  | .inr ⟨c, cur, e, hg, hc⟩ => .inr ⟨c, cur, e, Eq.trans h hg, hc⟩
theorem SG.of {w : World} {base : Nat} {v : Value} {S : Rc} (h : SL w base v S) (hw : 0 < w.heap.size) : ∃ g, g < w.heap.size ∧ SG g w v S := by
  rcases h.2 with ⟨rfl, hz⟩ | ⟨g, cap, cur, rfl, _, hg, _⟩
  · exact ⟨0, hw, .inl ⟨rfl, List.eq_nil_of_length_eq_zero hz⟩⟩
  · refine ⟨g, lt_of_heap hg, .inr ⟨cap, cur, rfl, hg, fun j u hj => ?_⟩⟩
    have := World.ownsRow.cells h rfl j u hj
    rw [Addr.add_lit, Nat.zero_add, cell_of_row _ _ _ _ _ _ hg] at this
    exact this
set_option maxHeartbeats 2000000 in
theorem all1_in (F : Fence) (n : Nat) (h7 : F.fn 108) (hro : F.round = none) (hn : 1 ≤ n) (l Bs g : Nat) (sv : Value) (S : Rc) (hlen : S.length ≤ 5000) (J Jx : Rc → World → Prop) (hJ : ∀ s W o, J s W → J s (W.alloc o))
    (W : World) (hS : SG g W sv S)
    (hY : ∀ pre x W, J pre W → pre.length < S.length → YieldAt F (n - 1) Try.prog l (encS x) W fun e W' =>
      (e = .returned (.bool true) ∧ J (pre ++ [x]) W' ∧ KpB g W W') ∨ (e = .returned (.bool false) ∧ Jx (pre ++ [x]) W'))
    (hBs : W.cell? ⟨Bs, 0, none⟩ = some sv) (h0 : J [] W) :
    CallsIn F n Try.prog 108 #[.func (.yield l) #[] #[], .pointer (some ⟨Bs, 0, none⟩)] W fun e W' => (∃ v, e = .returned v) ∧
      ((∃ ys, ys = S ∧ J ys W') ∨ (∃ pre, pre <+: S ∧ Jx pre W')) := by
  obtain ⟨p, c, rfl⟩ : ∃ p c, sv = .slice p S.length c := by
    rcases hS with ⟨rfl, rfl⟩ | ⟨c, cur, rfl, _⟩
    · exact ⟨_, _, rfl⟩
    · exact ⟨_, _, rfl⟩
  have HS := hide_ hS
  have HY := hide_ hY
  clear hS hY
  refine callsIn_of_wp Try.func108 rfl h7 ?_ hro
  simp only [Try.ntmps108, List.size_toArray, List.length_cons, List.length_nil, Nat.reduceAdd, Nat.reduceSub, Array.replicate_succ, Array.replicate_zero, List.push_toArray, List.append_toArray, List.nil_append, List.cons_append]
  gi_wp2
  gi_loopw [7] (fun i wr => ∃ k : Nat, k ≤ S.length ∧ i = .int .i64 k ∧ J (S.take k) wr ∧ Hid (KpB g W wr))
    (fun i _ => S.length - (intOf i).toNat)
  case atStart => exact ⟨0, Nat.zero_le _, rfl, h0, hide_ (Eq.refl _)⟩
  case round =>
    obtain ⟨k, hk, rfl, hJs, hnx⟩ := hrel
    by_cases hlt : k < S.length
    · rcases HS.out.kept hnx.out with ⟨_, h⟩ | ⟨c', cur, e, hg, hc⟩
      · subst h; cases hlt
      simp only [Value.slice.injEq] at e
      obtain ⟨rfl, _, rfl⟩ := e
      have hc0 : wr.cell? ⟨g, k * 2, none⟩ = some (.int .i64 (S.getD k (0, 0)).1) := by rw [cell_of_row _ _ _ _ _ _ hg]; exact hc _ _ (flat_at S k hlt).1
      have hc1 : wr.cell? ⟨g, k * 2 + 1, none⟩ = some (.float .f64 (S.getD k (0, 0)).2) := by rw [cell_of_row _ _ _ _ _ _ hg]; exact hc _ _ (flat_at S k hlt).2
      have hsn := take_snoc S k hlt
      generalize htt : (S.getD k (0, 0)).1 = t at *
      generalize hhh : (S.getD k (0, 0)).2 = b at *
      have hgd : S.getD k (0, 0) = (t, b) := by rw [← htt, ← hhh]
      rw [hgd] at hsn
      have HSN := hide_ hsn
      obtain ⟨fn, tmps, assign, body, hy, hR⟩ := HY.out _ (t, b) _ (hJ _ _ (.cells #[.int .i64 t, .float .f64 b] 26) hJs) (by rw [List.length_take]; omega)
      have hR := hide_ hR
      have hal : KpB g wr (wr.alloc (.cells #[.int .i64 t, .float .f64 b] 26)) := (heap_past hg).trans hg.symm
      have hal := hide_ hal
      dsimp only [encS] at hy
      clear hsn hgd htt hhh hc hg
      gi_wp2_with (first | ((with_reducible apply wpList_store_new); (with_reducible rfl); (with_reducible rfl); rfl; rfl; kernel_rfl; rfl; kernel_rfl))
      refine hR.out.mono ?_
      rintro e W3 (⟨rfl, hJ3, hk3⟩ | ⟨rfl, hJx3⟩)
      · have hk3 := hide_ hk3
        gi_wp2
        go_roundw
        case rel => exact ⟨k + 1, by omega, by simp, by rw [HSN.out]; exact hJ3, hide_ (kpB_t (kpB_t hnx.out hal.out) hk3.out)⟩
        case measure => simp [intOf]; omega
      · gi_wp2
        refine bodyPost_ret (results_none rfl _ _ _) rfl ?_
        exact ⟨⟨_, rfl⟩, .inr ⟨S.take (k + 1), List.take_prefix _ _, by rw [HSN.out]; exact hJx3⟩⟩
    · obtain rfl : k = S.length := by omega
      rw [List.take_length] at hJs
      gi_wp2
      go_end0
      exact ⟨⟨_, rfl⟩, .inl ⟨_, rfl, hJs⟩⟩
theorem all_stops (F : Fence) (n : Nat) (h7 : F.fn 108) (hro : F.round = none) (hn : 1 ≤ n) (Bs g : Nat) (sv : Value) (S : Rc) (hlen : S.length ≤ 5000) (w : World) (hBs : Bs < w.heap.size) (hg : g < w.heap.size)
    (hc : w.cell? ⟨Bs, 0, none⟩ = some sv) (hI : SG g w sv S) :
    SeqStopsK F n Try.prog 108 #[.pointer (some ⟨Bs, 0, none⟩)] encS (KpB g) (fun ys => ys = S) (fun pre => pre <+: S) S.length w := fun l J Jx W hW hJ _ hY h0 =>
  all1_in F n h7 hro hn l Bs g sv S hlen J Jx (fun s W1 o h => hJ s W1 _ none h (World.grownBy_alloc _ _ _) (fun r e => by cases e)) W (hI.kept (hW.block g hg)) hY ((hW.cell (p := ⟨Bs, 0, none⟩) hBs).trans hc) h0
theorem all_rec {w : World} {rb mb : Nat} {L : Rc} (h : Rec w rb mb L) : Calls Try.prog 79 #[.pointer (some ⟨rb, 0, none⟩)] w fun e w' =>
    ∃ B v, e = .returned (.func (.func 108) #[] #[.pointer (some ⟨B, 0, none⟩)]) ∧ w'.heap[B]? = some (.cells #[v] 23) ∧ SL w' w.heap.size v (ones L) ∧ w.heap.size ≤ B ∧ Below w.heap.size w w' := by
  have HS := hide_ (samples_rec h)
  clear h
  go_enter Try.func79, Try.ntmps79
  go_wp2_with (go_at_call 21; (with_reducible refine (HS.out).mono ?_); rintro e w1 ⟨v, rfl, hrow, hnil, hb⟩; have hrow' := hide_ hrow; obtain ⟨p, c, rfl⟩ := row_slice hrow; clear hrow hnil)
  go_ret
  exact ⟨w1.heap.size, _, rfl, heap_alloc_last _ _, hrow'.out.alloc _, hb.size, hb.alloc hb.size _⟩
def askE (a b : Int) : Int := if a < 0 ∨ 1048577 < b ∨ b < a then 2 else 0
theorem asked_rec {w : World} {rb mb : Nat} {L : Rc} {a b : Int} (h : Rec w rb mb L) : Calls Try.prog 80 #[.pointer (some ⟨rb, 0, none⟩), .int .i64 a, .int .i64 b] w fun e w' =>
    e = .returned (.int .i64 (askE a b)) ∧ w = w' := by
  have HN := hide_ (none_rec h)
  clear h
  unfold askE
  by_cases h1 : a < 0
  · rw [if_pos (.inl h1)]
    go_enter Try.func80, Try.ntmps80
    go_wp2_with (go_at_call 73; (with_reducible refine (HN.out).mono ?_); rintro e w1 ⟨rfl, rfl⟩)
    go_ret
    exact ⟨rfl, rfl⟩
  · by_cases h2 : 1048577 < b
    · rw [if_pos (.inr (.inl h2))]
      go_enter Try.func80, Try.ntmps80
      go_wp2_with (go_at_call 73; (with_reducible refine (HN.out).mono ?_); rintro e w1 ⟨rfl, rfl⟩)
      go_ret
      exact ⟨rfl, rfl⟩
    · by_cases h3 : b < a
      · rw [if_pos (.inr (.inr h3))]
        go_enter Try.func80, Try.ntmps80
        go_wp2_with (go_at_call 73; (with_reducible refine (HN.out).mono ?_); rintro e w1 ⟨rfl, rfl⟩)
        go_ret
        exact ⟨rfl, rfl⟩
      · rw [if_neg (by omega)]
        go_enter Try.func80, Try.ntmps80
        go_wp2_with (go_at_call 73; (with_reducible refine (HN.out).mono ?_); rintro e w1 ⟨rfl, rfl⟩)
        go_ret
        exact ⟨rfl, rfl⟩
end Go.Proofs.Ytlgnidjkilbdfaa
