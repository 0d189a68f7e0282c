/- Chapter 19: what the document's examples say. -/
import Derived.Test.YtlgnidjkilbdfaaGap
namespace Go.Proofs.Ytlgnidjkilbdfaa
open Go.RowKit
set_option linter.unusedVariables false
set_option maxRecDepth 100000
theorem nan_any (w : World) : Calls Try.prog 41 #[] w fun e w' => e = .returned (.float .f64 9221120237041090561) ∧ w = w' := by
  have g1 := run_frombits
  go_enter Try.func41, Try.ntmps41
  go_wp2
  go_ret
  exact ⟨rfl, rfl⟩
theorem inf_any (w : World) : Calls Try.prog 42 #[.int .i64 1] w fun e w' => e = .returned (.float .f64 9218868437227405312) ∧ w = w' := by
  have g1 := run_frombits
  go_enter Try.func42, Try.ntmps42
  go_wp2
  go_ret
  exact ⟨rfl, rfl⟩
theorem i64s {t : Int} (h0 : -1000000000 ≤ t) (h1 : t ≤ 1000000000) : I64 t := ⟨by omega, by omega⟩
theorem add_at {w : World} {rb mb : Nat} {L : Rc} {t : Int} {b : Nat} (E : Int) (L' : Rc) (h : Rec w rb mb L) (ht : I64 t) (hb : b < 2 ^ 64) (hE : addE L t = E) (hL : addR L t b = L') : Calls Try.prog 28 #[.pointer (some ⟨rb, 0, none⟩), .agg #[.int .i64 t, .float .f64 b]] w fun e w' =>
    e = .returned (.int .i64 E) ∧ Rec w' rb mb L' ∧ w.grownBy w' (some mb) := by
  subst hE hL
  exact add_rec h ht hb
theorem take_at {w : World} {rb mb : Nat} {L : Rc} {t : Int} (E : Int) (L' : Rc) (h : Rec w rb mb L) (ht : I64 t) (hE : takeE L t = E) (hL : delT L t = L') : Calls Try.prog 30 #[.pointer (some ⟨rb, 0, none⟩), .int .i64 t] w fun e w' =>
    e = .returned (.int .i64 E) ∧ Rec w' rb mb L' ∧ w.grownBy w' (some mb) := by
  subst hE hL
  exact take_rec h ht
def gl (G : Gs) (k : Nat) : Int × Int := G.getD k (0, 0)
theorem flatG_at : ∀ (L : Gs) (k : Nat), k < L.length → (flatG L)[k * 2]? = some (.int .i64 (L.getD k (0, 0)).1) ∧ (flatG L)[k * 2 + 1]? = some (.int .i64 (L.getD k (0, 0)).2)
  | [], k, h => by cases h
  | p :: L, 0, h => by unfold flatG; simp
  | p :: L, k + 1, h => by
    have ih := flatG_at L k (by simpa using h)
    have e : flatG (p :: L) = [.int .i64 p.1, .int .i64 p.2] ++ flatG L := rfl
    rw [e, show (k + 1) * 2 = 2 + k * 2 by omega]
    constructor
    · rw [List.getElem?_append_right (by simp), show 2 + k * 2 - [Value.int .i64 p.1, Value.int .i64 p.2].length = k * 2 by simp, ih.1]; simp
    · rw [List.getElem?_append_right (by simp; omega), show 2 + k * 2 + 1 - [Value.int .i64 p.1, Value.int .i64 p.2].length = k * 2 + 1 by simp; omega, ih.2]; simp
theorem run_eq76 (a b : Int) (w : World) : (Op.equalIn 10000 76 (.agg #[.int .i64 a, .int .i64 b]) (.agg #[.int .i64 a, .int .i64 b])).run Try.prog w = .ok true w := by
  obtain ⟨i0, hi0, hz0, hz1, hz2⟩ := info_parts info3
  rw [show (10000 : Nat) = 9999 + 1 from rfl, run_equalIn_array w 9999 _ _ Try.underlying76 hi0]
  have hc : Try.prog.cellsOf 3 = 1 := by kernel_rfl
  have p0 : ∀ a b : Int, (Go.part 3 #[.int .i64 a, .int .i64 b] 0).run Try.prog w = .ok (.int .i64 a) w := fun a b => by kernel_rfl
  have p1 : ∀ a b : Int, (Go.part 3 #[.int .i64 a, .int .i64 b] 1).run Try.prog w = .ok (.int .i64 b) w := fun a b => by kernel_rfl
  have hr : List.range 2 = [0, 1] := rfl
  have he : ∀ a : Int, (Op.equalIn 9999 3 (.int .i64 a) (.int .i64 a)).run Try.prog w = .ok true w := fun a => by rw [run_equalIn_int w 9998 3 .i64 .i64 a a Try.underlying3]; simp
  rw [hc, hr]
  simp [Op.eqItems, Sem.run_bind, p0, p1, he, Result.andThen]
set_option maxHeartbeats 1600000 in
theorem pairs_true {w : World} {b1 b2 : Nat} {v1 v2 : Value} {G : Gs} (h1 : w.ownsRow b1 76 2 v1 G.length (flatG G)) (h2 : w.ownsRow b2 76 2 v2 G.length (flatG G)) (hn : G.length ≤ 5000) : Calls Try.prog 72 #[v1, v2] w fun e w' => e = .returned (.bool true) ∧ Below w.heap.size w w' := by
  obtain ⟨p, c, rfl⟩ := row_slice h1
  obtain ⟨q, d, rfl⟩ := row_slice h2
  have H1 := hide_ h1
  have H2 := hide_ h2
  clear h1 h2
  go_enter Try.func72, Try.ntmps72
  go_wp2
  go_loopw [5] (fun i wr => ∃ k : Nat, k ≤ G.length ∧ i = .int .i64 k ∧ Below w.heap.size w wr) (fun i _ => G.length - (intOf i).toNat)
  case atStart => exact ⟨0, by omega, rfl, Below.refl _ _⟩
  case round =>
    obtain ⟨k, hk, rfl, hw⟩ := hrel
    by_cases hlt : k < G.length
    · obtain ⟨g, rfl, _, hl, hc⟩ := row_cells (own_below H1.out hw) (by omega)
      obtain ⟨g2, rfl, _, hl2, hd⟩ := row_cells (own_below H2.out hw) (by omega)
      obtain ⟨e1, e2⟩ := flatG_at G k hlt
      have hc0 := hc _ _ e1
      have hc1 := hc _ _ e2
      have hd0 := hd _ _ e1
      have hd1 := hd _ _ e2
      generalize (G.getD k (0, 0)).1 = t at *
      generalize (G.getD k (0, 0)).2 = u at *
      have heq := fun wx => run_eq76 t u wx
      clear hc hd e1 e2
      go_wp2
      go_quiet (fail)
      go_wp2
      go_roundw
      case rel => exact ⟨k + 1, by omega, by go_num, below_drewN hw _⟩
      case measure => simp [intOf]; omega
    · obtain rfl : k = G.length := by omega
      have hge : ¬ G.length < G.length := by omega
      go_wp2
      go_ret
      exact ⟨rfl, hw⟩
theorem new_at (w : World) : Calls Try.prog 27 #[] w fun e w' => ∃ rb mb, e = .returned (.pointer (some ⟨rb, 0, none⟩)) ∧ Rec w' rb mb [] ∧ w.heap.size ≤ rb ∧ w.heap.size ≤ mb ∧ Below w.heap.size w w' :=
  (new_any w).mono fun e w' ⟨h1, h2⟩ => ⟨w.heap.size + 1, w.heap.size, h1, by rw [h2]; exact new_rec w, by omega, by omega, by rw [h2]; exact ((Below.refl _ _).alloc (Nat.le_refl _) _).alloc (by simp) _⟩
def A1 : Rc := [(3, 4609434218613702656)]
def A2 : Rc := [(1, 9221120237041090561), (3, 4609434218613702656)]
theorem gaps_at {w : World} {rb mb : Nat} {L : Rc} {a b : Int} (E : Int) (G : Gs) (h : Rec w rb mb L) (hE : askE a b = E) (hG : gapsOf L a b = G) : Calls Try.prog 35 #[.pointer (some ⟨rb, 0, none⟩), .int .i64 a, .int .i64 b] w fun e w' =>
    ∃ v, e = .returned (.tuple #[v, .int .i64 E]) ∧ w'.ownsRow w.heap.size 76 2 v G.length (flatG G) ∧ (v = .slice none 0 0 ↔ G = []) ∧ Below w.heap.size w w' := by
  subst hE hG
  exact gaps_rec h
theorem len_at {w : World} {rb mb : Nat} {L : Rc} (n : Int) (h : Rec w rb mb L) (hn : ((ones L).length : Int) = n) : Calls Try.prog 29 #[.pointer (some ⟨rb, 0, none⟩)] w fun e w' => e = .returned (.int .i64 n) ∧ Below w.heap.size w w' := by
  subst hn
  exact len_rec h
theorem lost_at {w : World} {rb mb : Nat} {L : Rc} (l : List Int) (h : Rec w rb mb L) (hl : lost L = l) : Calls Try.prog 24 #[.pointer (some ⟨rb, 0, none⟩)] w fun e w' =>
    ∃ v, e = .returned v ∧ w'.ownsRow w.heap.size 3 1 v l.length (l.map iv) ∧ (v = .slice none 0 0 ↔ l = []) ∧ Below w.heap.size w w' := by
  subst hl
  exact lost_rec h
theorem Grew.add {B : Nat} {w w1 w2 : World} {mb : Nat} (h : Grew B w w1) (hg : w1.grownBy w2 (some mb)) (hm : B ≤ mb) : Grew B w w2 := h.grown hg hm
theorem row_lit (w : World) (base : Nat) (e : TypeId) (size n : Nat) (cs : Array Value) (hb : base ≤ w.heap.size) (hn : cs.size = n * size) (hm : n ≤ maxLen) :
    (w.alloc (.cells cs e)).ownsRow base e size (.slice (some ⟨w.heap.size, 0, none⟩) n n) n cs.toList :=
  ⟨by simpa using hn, .inr ⟨w.heap.size, n, cs, rfl, hb, heap_alloc_last _ _, Nat.le_refl _, hm, hn, List.take_of_length_le (by simp [hn])⟩⟩
set_option maxHeartbeats 4000000 in
theorem awake_any (w : World) : Calls Try.prog 26 #[] w fun e w' => e = .returned (.bool true) ∧ Below w.heap.size w w' := by
  have H0 := hide_ (new_at w)
  have HN := hide_ nan_any
  have tok1 : True := trivial
  have tok2 : True := trivial
  have tok3 : True := trivial
  have tok4 : True := trivial
  have e1 : addE [] 3 = 0 := by decide
  have e2 : addE A1 1 = 0 := by decide
  have e3 : addE A2 3 = 5 := by decide
  have e4 : addE A2 (-1) = 2 := by decide
  have l1 : addR [] 3 4609434218613702656 = A1 := by decide
  have l2 : addR A1 1 9221120237041090561 = A2 := by decide
  have l3 : addR A2 3 4611686018427387904 = A2 := by decide
  have l4 : addR A2 (-1) 0 = A2 := by decide
  have a1 : askE 0 6 = 0 := by decide
  have g1 : gapsOf A2 0 6 = [(0, 3), (4, 2)] := by decide +kernel
  have o1 : ((ones A2).length : Int) = 1 := by decide +kernel
  have o2 : lost A2 = [1] := by decide +kernel
  have HE := hide_ (And.intro e1 (And.intro e2 (And.intro e3 (And.intro e4 (And.intro l1 (And.intro l2 (And.intro l3 (And.intro l4 (And.intro a1 (And.intro g1 (And.intro o1 o2)))))))))))
  clear e1 e2 e3 e4 l1 l2 l3 l4 a1 g1 o1 o2
  go_enter Try.func26, Try.ntmps26
  go_wp2_with (first
    | (go_at_call 27; (with_reducible refine (H0.out).mono ?_); rintro e w1 ⟨rb, mb, rfl, r0, hrb, hmb, hb1⟩; have g0 := Grew.of hb1; clear hb1)
    | (go_at_call 41; (with_reducible refine (HN.out _).mono ?_); rintro e w1 ⟨rfl, rfl⟩)
    | (go_at_call 28; have _t := tok1; go_must ((with_reducible refine (add_at 0 A1 r0 (i64s (t := 3) (by decide) (by decide)) (by decide) HE.out.1 HE.out.2.2.2.2.1).mono ?_); rintro e w2 ⟨rfl, r1, hb1⟩; have g1 := g0.add hb1 hmb; clear tok1 r0 g0 hb1))
    | (go_at_call 28; have _t := tok2; go_must ((with_reducible refine (add_at 0 A2 r1 (i64s (t := 1) (by decide) (by decide)) (by decide) HE.out.2.1 HE.out.2.2.2.2.2.1).mono ?_); rintro e w3 ⟨rfl, r2, hb2⟩; have g2 := g1.add hb2 hmb; clear tok2 r1 g1 hb2))
    | (go_at_call 28; have _t := tok3; go_must ((with_reducible refine (add_at 5 A2 r2 (i64s (t := 3) (by decide) (by decide)) (by decide) HE.out.2.2.1 HE.out.2.2.2.2.2.2.1).mono ?_); rintro e w4 ⟨rfl, r3, hb3⟩; have g3 := g2.add hb3 hmb; clear tok3 r2 g2 hb3))
    | (go_at_call 28; have _t := tok4; go_must ((with_reducible refine (add_at 2 A2 r3 (i64s (t := -1) (by decide) (by decide)) (by decide) HE.out.2.2.2.1 HE.out.2.2.2.2.2.2.2.1).mono ?_); rintro e w5 ⟨rfl, r4, hb4⟩; have g4 := g3.add hb4 hmb; clear tok4 r3 g3 hb4))
    | (go_at_call 35; go_must ((with_reducible refine (gaps_at 0 [(0, 3), (4, 2)] r4 HE.out.2.2.2.2.2.2.2.2.1 HE.out.2.2.2.2.2.2.2.2.2.1).mono ?_); rintro e w6 ⟨vg, rfl, hg6, _, hb6⟩; have g5 := g4.step hb6; have r5 := r4.below hb6; clear r4 g4 hb6))
    | (go_at_call 29; go_must ((with_reducible refine (len_at 1 r5 HE.out.2.2.2.2.2.2.2.2.2.2.1).mono ?_); rintro e w7 ⟨rfl, hb7⟩; have g6 := g5.step hb7; have r6 := r5.below hb7; have hg7 := own_below hg6 hb7; clear r5 g5 hb7 hg6))
    | (go_at_call 24; go_must ((with_reducible refine (lost_at [1] r6 HE.out.2.2.2.2.2.2.2.2.2.2.2).mono ?_); rintro e w8 ⟨vl, rfl, hl8, _, hb8⟩; have g7 := g6.step hb8; have hg8 := own_below hg7 hb8; clear r6 g6 hb8 hg7))
    | (go_at_call 23; go_must ((with_reducible refine (sameInts_true (S := [1]) (hl8.alloc _) (row_lit _ 0 3 1 1 #[.int .i64 1] (Nat.zero_le _) rfl (by decide)) (by simp)).mono ?_); rintro e w9 ⟨rfl, hb9⟩; have g8 := (g7.alloc (.cells #[.int .i64 1] 3)).step hb9; have hg9 := own_below (hg8.alloc (.cells #[.int .i64 1] 3)) hb9; clear hl8 g7 hb9 hg8))
    | (go_at_call 72; go_must ((with_reducible refine (pairs_true (G := [(0, 3), (4, 2)]) (hg9.alloc _) (row_lit _ 0 76 2 2 #[.int .i64 0, .int .i64 3, .int .i64 4, .int .i64 2] (Nat.zero_le _) rfl (by decide)) (by simp)).mono ?_); rintro e w10 ⟨rfl, hb10⟩; have g9 := (g8.alloc (.cells #[.int .i64 0, .int .i64 3, .int .i64 4, .int .i64 2] 76)).step hb10)))
  go_ret
  exact ⟨rfl, g9.below⟩
end Go.Proofs.Ytlgnidjkilbdfaa
