/- SecondPieces: lists behind one another; the early ends. -/
import Derived.Test.YtcibbnphkpaifaaTm
namespace Go.Proofs.Ytcibbnphkpaifaa
open Go.RowKit
set_option linter.unusedVariables false
set_option maxRecDepth 100000
/-- A row of fractions whose words are anybody's own. -/
def RWs (w : World) (base : Nat) (v : Value) (Z : List Ze) : Prop := w.ownsRow base 32 3 v Z.length (Z.flatMap Ze.c3) ∧ ∀ z ∈ Z, RO w 0 z.agg z.h ∧ Fits z.h
theorem OFs.rws {w : World} {base : Nat} {v : Value} {Z : List Ze} (h : OFs w base v Z) : RWs w base v Z := ⟨h.1, fun z hz => ⟨(h.2.1 z hz).1.mono (Nat.zero_le _), (h.2.1 z hz).2⟩⟩
theorem RWs.below {w w' : World} {base : Nat} {v : Value} {Z : List Ze} (h : RWs w base v Z) (hb : Below w.heap.size w w') : RWs w' base v Z := ⟨own_below h.1 hb, fun z hz => ⟨(h.2 z hz).1.below hb, (h.2 z hz).2⟩⟩
theorem c3_one {Z : List Ze} : ∀ u ∈ Z.flatMap Ze.c3, u.oneCell' = true := by
  intro u hu
  rw [List.mem_flatMap] at hu
  obtain ⟨z, _, hu⟩ := hu
  simp [Ze.c3] at hu
  rcases hu with rfl | rfl | rfl <;> rfl
theorem c3_len (Z : List Ze) : (Z.flatMap Ze.c3).length = Z.length * 3 := by
  induction Z with
  | nil => rfl
  | cons z Z ih => rw [List.flatMap_cons, List.length_append, ih, List.length_cons, ze3]; omega
theorem row_news {w : World} {base : Nat} {e : TypeId} {size n g c : Nat} {xs : List Value} (h : w.ownsRow base e size (.slice (some ⟨g, 0, none⟩) n c) n xs) : ∀ j u, xs[j]? = some u → w.cell? ((⟨g, 0, none⟩ : Addr).add j) = some u := fun j u hj => h.cells rfl j u hj
theorem RWs.app {w : World} {base b2 : Nat} {v v2 : Value} {Z1 Z2 : List Ze} {i0 : TypeInfo} {ty : TypeId} (hi : Try.prog.info? 32 = some i0) (hz0 : i0.zero = some (.agg #[.bool false, .slice none 0 0, .slice none 0 0])) (hz1 : i0.size = 3) (hz2 : i0.bytes = 56)
    (h1 : RWs w base v Z1) (hb : base ≤ w.heap.size) (h2 : RWs w b2 v2 Z2) (hn : Z1.length + Z2.length ≤ 1000000) :
    ∃ v' w', (Builtin.append_ #[40, 40] ty #[v, v2]).run Try.prog w = .ok v' w' ∧ RWs w' base v' (Z1 ++ Z2) ∧ w.grownBy w' v.ownBlock := by
  rcases row_block h2.1 with ⟨rfl, hz⟩ | ⟨g, c, cur, rfl, _, _, _⟩
  · obtain rfl := List.eq_nil_of_length_eq_zero hz
    exact ⟨v, w, run_append_owned_none (P := Try.prog) w base 40 ty 32 i0 3 Try.underlying40 hi v Z1.length _ h1.1, by simpa using h1, ⟨rfl, rfl, rfl, Nat.le_refl _, fun _ _ _ => rfl⟩⟩
  · obtain ⟨v', w', hr, r1, r2, _⟩ := run_append_own (P := Try.prog) w base 40 ty 32 i0 (.agg #[.bool false, .slice none 0 0, .slice none 0 0]) 3 56 Try.underlying40 hi hz0 hz1 hz2 rfl (by decide) v Z1.length _ h1.1 ⟨g, 0, none⟩ Z2.length c (Z2.flatMap Ze.c3) (c3_len Z2) (row_news h2.1) c3_one (by unfold maxLen; omega) (by omega) hb
    refine ⟨v', w', hr, ⟨?_, fun z hz => ?_⟩, r2⟩
    · rw [List.length_append, List.flatMap_append]
      exact r1
    · rcases List.mem_append.1 hz with hz | hz
      · exact ⟨row_kept h1.1 (by decide) r2 (h1.2 z hz).1, (h1.2 z hz).2⟩
      · exact ⟨row_kept h1.1 (by decide) r2 (h2.2 z hz).1, (h2.2 z hz).2⟩
theorem RWs.frs {w : World} {base : Nat} {p : Option Addr} {c : Nat} {Z : List Ze} (h : RWs w base (.slice p Z.length c) Z) : FRs w p (Z.map Ze.h) := by
  rcases Nat.eq_zero_or_pos Z.length with h0 | h0
  · left
    rw [List.eq_nil_of_length_eq_zero h0]; rfl
  · obtain ⟨g, rfl, hbg, hg, hc⟩ := row_cells h.1 h0
    refine .inr ⟨g, 0, rfl, hg, fun i hi => ?_⟩
    have hi' : i < Z.length := by simpa using hi
    have hz := h.2 Z[i] (List.getElem_mem hi')
    have k : ∀ j u, j < 3 → (Ze.c3 Z[i])[j]? = some u → w.cell? ⟨g, 0 + i * 3 + j, none⟩ = some u := fun j u hj hu => by
      rw [Nat.zero_add]
      exact hc _ _ (by rw [flat_get Ze.c3 3 ze3 Z i j hi' hj]; exact hu)
    simp only [List.getElem_map]
    exact ⟨Z[i].p, Z[i].c, Z[i].q, Z[i].d, ⟨k 0 _ (by decide) rfl, k 1 _ (by decide) rfl, k 2 _ (by decide) rfl⟩, hz.1.rv hz.2⟩
theorem u64_gap {a b : Int} (h : a ≤ b) (ha : -9223372036854775808 ≤ a) (hb : b < 9223372036854775808) : IntKind.u64.wrap (IntKind.u64.wrap b - IntKind.u64.wrap a) = b - a := by
  rw [w64, w64, w64]
  omega
set_option maxHeartbeats 6400000 in
theorem pieces_size (p : Option Addr) (n c : Nat) (a m b : Int) (w : World) (h : 200 < n) :
    Calls Try.prog 4 #[.slice p n c, .int .i64 a, .int .i64 m, .int .i64 b] w fun e w' => e = .returned (.bool true) ∧ Below w.heap.size w w' := by
  have HA := hide_ (fun W => awake_any W)
  have z1 : decide ((200 : Int) < (n : Int)) = true := decide_eq_true (by omega)
  clear h
  go_enter Try.func4, Try.ntmps4
  go_wp2_with (first | (go_at_call 11; go_must ((with_reducible refine (HA.out _).mono ?_); rintro e w1 ⟨rfl, hb1⟩)))
  go_ret
  exact ⟨by simp, hb1⟩
set_option maxHeartbeats 6400000 in
theorem pieces_early (p : Option Addr) (n c : Nat) (a m b : Int) (lo : Bool) (w : World) (h2 : n ≤ 200) (HL : Hid (∀ W, Below w.heap.size w W → Calls Try.prog 12 #[.slice p n c] W fun e w' => e = .returned (.bool lo) ∧ Below W.heap.size W w'))
    (hc : lo = true ∨ (lo = false ∧ decide (b < a) = true) ∨ (lo = false ∧ decide (b < a) = false ∧ decide (60 < IntKind.u64.wrap (IntKind.u64.wrap b - IntKind.u64.wrap a)) = true)) :
    Calls Try.prog 4 #[.slice p n c, .int .i64 a, .int .i64 m, .int .i64 b] w fun e w' => e = .returned (.bool true) ∧ Below w.heap.size w w' := by
  have HA := hide_ (fun W => awake_any W)
  have z1 : decide ((200 : Int) < (n : Int)) = false := decide_eq_false (by omega)
  clear h2
  rcases hc with rfl | ⟨rfl, z2⟩ | ⟨rfl, z2, z3⟩
  all_goals
    go_enter Try.func4, Try.ntmps4
    go_wp2_with (first
      | (go_at_call 11; go_must ((with_reducible refine (HA.out _).mono ?_); rintro e w1 ⟨rfl, hb1⟩))
      | (go_at_call 12; go_must ((with_reducible refine (HL.out _ hb1).mono ?_); rintro e w2 ⟨rfl, hb2⟩)))
    go_ret
    exact ⟨by simp, hb1.trans (hb2.mono hb1.size)⟩
set_option maxHeartbeats 6400000 in
theorem pieces_fault (p : Option Addr) (n c : Nat) (a m b f1 f2 : Int) (w : World) (h2 : n ≤ 200) (HL : Hid (∀ W, Below w.heap.size w W → Calls Try.prog 12 #[.slice p n c] W fun e w' => e = .returned (.bool false) ∧ Below W.heap.size W w'))
    (z2 : decide (b < a) = false) (z3 : decide (60 < IntKind.u64.wrap (IntKind.u64.wrap b - IntKind.u64.wrap a)) = false)
    (HC : Hid (∀ W, Below w.heap.size w W → Calls Try.prog 17 #[.slice p n c, .int .i64 a, .int .i64 b] W (ResN W f1 f2))) (hf : f1 ≠ 0) :
    Calls Try.prog 4 #[.slice p n c, .int .i64 a, .int .i64 m, .int .i64 b] w fun e w' => e = .returned (.bool true) ∧ Below w.heap.size w w' := by
  have HA := hide_ (fun W => awake_any W)
  have z1 : decide ((200 : Int) < (n : Int)) = false := decide_eq_false (by omega)
  have z4 : (f1 == 0) = false := by simpa using hf
  have z5 : (f1 != 0) = true := by simpa using hf
  clear h2
  go_enter Try.func4, Try.ntmps4
  go_wp2_with (first
    | (go_at_call 11; go_must ((with_reducible refine (HA.out _).mono ?_); rintro e w1 ⟨rfl, hb1⟩))
    | (go_at_call 12; go_must ((with_reducible refine (HL.out _ hb1).mono ?_); rintro e w2 ⟨rfl, hb2⟩; have hb3 := hb1.trans (hb2.mono hb1.size)))
    | (go_at_call 17; go_must ((with_reducible refine (HC.out _ hb3).mono ?_); rintro e w4 ⟨rfl, hb4⟩; obtain ⟨x0, x1⟩ := cells_two (heap_alloc_last w4 (.cells #[.int .i64 f1, .int .i64 f2] 27))))
    | ((with_reducible apply wpList_store_new); (with_reducible rfl); (with_reducible rfl); rfl; rfl; kernel_rfl; rfl; kernel_rfl))
  go_ret
  have hb5 := hb3.trans (hb4.mono hb3.size)
  exact ⟨by simp, hb5.alloc hb5.size _⟩
end Go.Proofs.Ytcibbnphkpaifaa
