/- Chapter 19: the reference's record in memory: New, none, place, At. -/
import Derived.Test.YtlgnidjkilbdfaaSamp
namespace Go.Proofs.Ytlgnidjkilbdfaa
open Go.RowKit Go.Maps
set_option linter.unusedVariables false
set_option maxRecDepth 100000
/-- The reference's record: a box with a mark and a slice of samples, rising. -/
structure RRec (w : World) (qb : Nat) (v : Value) (L : Rc) : Prop where
  ok : Ok L
  box : w.heap[qb]? = some (.cells #[.bool true, v] 105)
  own : w.ownsRow qb 26 2 v L.length (flat L)
theorem row_type {w : World} {base : Nat} {e : TypeId} {size n : Nat} {v : Value} {xs : List Value} (h : w.ownsRow base e size v n xs) {g : Nat} {cs : Array Value} {T : TypeId} (hg : w.heap[g]? = some (.cells cs T)) (hT : T ≠ e) : v.ownBlock ≠ some g := by
  rcases h.2 with ⟨rfl, _⟩ | ⟨g', cap, cur, rfl, _, hg', _⟩
  · simp [Value.ownBlock]
  · intro he
    simp [Value.ownBlock] at he
    subst he
    rw [hg] at hg'
    cases hg'
    exact hT rfl
theorem RRec.kept {w w' : World} {qb : Nat} {v : Value} {L : Rc} {row : Option Nat} (h : RRec w qb v L) (hg : w.grownBy w' row) (h1 : some qb ≠ row) (h2 : v.ownBlock = none ∨ v.ownBlock ≠ row) : RRec w' qb v L :=
  ⟨h.ok, (hg.block qb (lt_of_heap h.box) h1).trans h.box, h.own.kept hg h2⟩
theorem RRec.below {w w' : World} {qb : Nat} {v : Value} {L : Rc} (h : RRec w qb v L) (hb : Below w.heap.size w w') : RRec w' qb v L :=
  h.kept (grown_of_below hb none) (by simp) (by cases hv : v.ownBlock <;> simp)
theorem RRec.drewN {w : World} {qb : Nat} {v : Value} {L : Rc} (h : RRec w qb v L) (n : Nat) : RRec (w.drewN n) qb v L := ⟨h.ok, h.box, h.own⟩
theorem RRec.slice {w : World} {qb : Nat} {v : Value} {L : Rc} (h : RRec w qb v L) : ∃ p c, v = .slice p L.length c := row_slice h.own
theorem RRec.cells {w : World} {qb c : Nat} {p : Option Addr} {L : Rc} (h : RRec w qb (.slice p L.length c) L) {k : Nat} (hk : k < L.length) :
    ∃ g, p = some ⟨g, 0, none⟩ ∧ w.cell? ⟨g, k * 2, none⟩ = some (.int .i64 (L.getD k (0, 0)).1) ∧ w.cell? ⟨g, k * 2 + 1, none⟩ = some (.float .f64 (L.getD k (0, 0)).2) := by
  obtain ⟨g, rfl, _, _, hc⟩ := row_cells h.own (by omega)
  exact ⟨g, rfl, hc _ _ (flat_at L k hk).1, hc _ _ (flat_at L k hk).2⟩
theorem rnew_any (w : World) : Calls Try.prog 31 #[] w fun e w' => e = .returned (.pointer (some ⟨w.heap.size, 0, none⟩)) ∧ w' = w.alloc (.cells #[.bool true, .slice none 0 0] 105) := by
  go_enter Try.func31, Try.ntmps31
  go_wp2
  go_ret
  exact ⟨rfl, rfl⟩
theorem rnew_rec (w : World) : RRec (w.alloc (.cells #[.bool true, .slice none 0 0] 105)) w.heap.size (.slice none 0 0) [] :=
  ⟨Ok.nil, heap_alloc_last _ _, World.ownsRow_nil _ _ _ _⟩
theorem rnone_rec {w : World} {qb : Nat} {v : Value} {L : Rc} (h : RRec w qb v L) : Calls Try.prog 70 #[.pointer (some ⟨qb, 0, none⟩)] w fun e w' => e = .returned (.bool false) ∧ w = w' := by
  obtain ⟨p, c, rfl⟩ := h.slice
  obtain ⟨hc, _⟩ := cells_two h.box
  clear h
  go_enter Try.func70, Try.ntmps70
  go_wp2
  go_ret
  exact ⟨rfl, rfl⟩
set_option maxHeartbeats 1600000 in
theorem place_rec {w : World} {qb : Nat} {v : Value} {L : Rc} {t : Int} (h : RRec w qb v L) : Calls Try.prog 103 #[.pointer (some ⟨qb, 0, none⟩), .int .i64 t] w fun e w' =>
    e = .returned (.tuple #[.int .i64 (plc L t : Nat), .bool (hasT L t)]) ∧ ∃ n, w' = w.drewN n := by
  obtain ⟨p, c, rfl⟩ := h.slice
  obtain ⟨hc0, hc1⟩ := cells_two h.box
  have hlen := h.ok.len
  have hple := plc_le L t
  have H := hide_ h
  clear h
  go_enter Try.func103, Try.ntmps103
  go_wp2
  go_loop [6] (fun i => ∃ k : Nat, k ≤ plc L t ∧ i = .int .i64 k) (fun i => L.length - (intOf i).toNat)
  case atStart => exact ⟨0, by omega, rfl⟩
  case round =>
    obtain ⟨k, hk, rfl⟩ := hrel
    by_cases hlt : k < plc L t
    · have hkl : k < L.length := by omega
      obtain ⟨g, rfl, d0, d1⟩ := H.out.cells hkl
      have hb := plc_below hlt
      clear d1
      generalize (L.getD k (0, 0)).1 = x at *
      go_wp2
      go_round
      case rel => exact ⟨k + 1, by omega, by go_num⟩
      case measure => simp [intOf]; omega
    · obtain rfl : k = plc L t := by omega
      have hh := has_plc (t := t) H.out.ok.asc
      have hat := plc_at (L := L) (t := t)
      obtain ⟨k, hkk⟩ : ∃ k, k = plc L t := ⟨_, rfl⟩
      rw [← hkk] at hh hat hple
      have HK := hide_ hkk
      have hw0 : Int.ofNat (plc L t) = Int.ofNat k := by rw [hkk]
      rw [show ((plc L t : Nat) : Int) = (k : Int) from hw0]
      clear hlt hk hkk hw0
      by_cases hkl : k < L.length
      · obtain ⟨g, rfl, d0, d1⟩ := H.out.cells hkl
        have hb := hat hkl
        clear d1 hat
        rw [decide_eq_true hkl, Bool.true_and] at hh
        generalize (L.getD k (0, 0)).1 = x at *
        have HH := hide_ hh
        clear hh
        go_wp2
        have hd1 : decide (k < L.length) = true := by simpa using hkl
        have hd2 : decide ((k : Int) < (L.length : Int)) = true := by simpa using hkl
        go_quiet (fail)
        go_wp2
        go_ret2
        rw [← HK.out, HH.out]
        exact ⟨rfl, _, rfl⟩
      · obtain rfl : k = L.length := by omega
        have hd0 : decide (L.length < L.length) = false := by simp
        rw [hd0, Bool.false_and] at hh
        have HH := hide_ hh
        clear hh hat hkl
        have hd2 : decide ((L.length : Int) < (L.length : Int)) = false := by simp
        go_wp2
        go_quiet (fail)
        go_wp2
        go_ret2
        rw [← HK.out, HH.out]
        exact ⟨rfl, _, rfl⟩
end Go.Proofs.Ytlgnidjkilbdfaa
