/- Chapter 20: CleanNames, the walk. -/
import Derived.Test.YtlgnidjkilbdfaaNb
namespace Go.Proofs.Ytlgnidjkilbdfaa
open Go.RowKit Ieee
set_option linter.unusedVariables false
set_option maxRecDepth 100000
theorem nMean {W : World} {p : Option Addr} {n c : Nat} {L : List Nat} {m : Nat} {e : Int} (hn : n = L.length) (h : FL W p L) (h64 : L.all (fun x => decide (x < 2 ^ 64)) = true) (hm : meanV (srt L) = m ∧ meanE (srt L) = e) (hl : n ≤ 65536) :
    Calls Try.prog 50 #[.slice p n c] W fun e' w' => e' = .returned (.tuple #[.float .f64 m, .int .i64 e]) ∧ Below W.heap.size W w' := by
  have := mean_any p n c L W hn h (w64_of h64) hl
  rwa [hm.1, hm.2] at this
theorem nMed {W : World} {p : Option Addr} {n c : Nat} {L : List Nat} {m : Nat} {b : Bool} (hn : n = L.length) (h : FL W p L) (h64 : L.all (fun x => decide (x < 2 ^ 64)) = true) (hm : medL (srt L) = m ∧ decide (0 < (srt L).length) = b) (hl : n ≤ 65536) :
    Calls Try.prog 45 #[.slice p n c] W fun e' w' => e' = .returned (.tuple #[.float .f64 m, .bool b]) ∧ Below W.heap.size W w' := by
  have := median_any p n c L W hn h (w64_of h64) (by omega)
  rwa [hm.1, hm.2] at this
theorem nSp {W : World} {p : Option Addr} {c lim : Nat} {T : List Int} (h : TL W p SP) (hl : lim < 2 ^ 64) (h1 : oneB lim = true) (h0 : fltB lim 0 = false) (hT : spL SP 2 lim 5 = T) :
    Calls Try.prog 57 #[.slice p 5 c, .int .i64 2, .float .f64 lim] W fun e w' => (∃ v, e = .returned (.tuple #[v, .int .i64 0]) ∧ w'.ownsRow W.heap.size 3 1 v T.length (T.map iv)) ∧ Below W.heap.size W w' := by
  have := spikes_ok p 5 c SP 2 lim W rfl h (by decide) (by decide) hl h1 h0 (by decide)
  rwa [hT] at this
theorem nBad {W : World} {p : Option Addr} {c lim : Nat} {wd E : Int} (hl : lim < 2 ^ 64) (hE : spE 5 wd lim = E) (h0 : E ≠ 0) :
    Calls Try.prog 57 #[.slice p 5 c, .int .i64 wd, .float .f64 lim] W fun e w' => e = .returned (.tuple #[.slice none 0 0, .int .i64 E]) ∧ Below W.heap.size W w' := by
  have := spikes_err p 5 c wd lim W hl (by decide) (by rw [hE]; exact h0)
  rwa [hE] at this
theorem nMG {W : World} {p : Option Addr} {c : Nat} (h : ML W p MG) :
    Calls Try.prog 61 #[.slice p 2 c] W fun e w' => (∃ v, e = .returned (.tuple #[v, .agg #[.int .i64 0, .int .i64 0]]) ∧ SL w' W.heap.size v [(1, 4611686018427387904), (3, 4618441417868443648)]) ∧ Below W.heap.size W w' := by
  have := merge_walk p 2 c MG W rfl h (by unfold LW64; decide) (by decide) (by decide)
  rwa [mgM] at this
theorem nMB {W : World} {p : Option Addr} {c : Nat} (h : ML W p MB) :
    Calls Try.prog 61 #[.slice p 2 c] W fun e w' => (∃ v, e = .returned (.tuple #[v, .agg #[.int .i64 2, .int .i64 1]])) ∧ Below W.heap.size W w' := by
  have := merge_walk p 2 c MB W rfl h (by unfold LW64; decide) (by decide) (by decide)
  rw [mbM] at this
  exact this.mono fun e w' ⟨⟨v, h1, _⟩, h2⟩ => ⟨⟨v, h1⟩, h2⟩
theorem nFX {W : World} {p : Option Addr} {c : Nat} (h : TL W p FX) :
    Calls Try.prog 47 #[.slice p 3 c] W fun e w' => (∃ v, e = .returned (.tuple #[v, .int .i64 0]) ∧ SL w' W.heap.size v [(1, 0), (2, 4607182418800017408), (3, 4611686018427387904), (4, 4613937818241073152), (9, 4613937818241073152)]) ∧ Below W.heap.size W w' := by
  have := fill_any p 3 c FX W rfl h (by decide) (by decide)
  rw [fx.1, fx.2] at this
  exact this.mono fun e w' ⟨⟨v, h1, h2, _⟩, h3⟩ => ⟨⟨v, h1, h2 rfl⟩, h3⟩
theorem nFS {W : World} {p : Option Addr} {c : Nat} (h : TL W p SP) :
    Calls Try.prog 47 #[.slice p 5 c] W fun e w' => e = .returned (.tuple #[.slice none 0 0, .int .i64 2]) ∧ Below W.heap.size W w' := by
  have := fill_any p 5 c SP W rfl h (by decide) (by decide)
  rw [fs] at this
  exact this.mono fun e w' ⟨⟨v, h1, _, h2⟩, h3⟩ => ⟨by rw [h1, h2 (by decide)], h3⟩
theorem ML.lit2 {w : World} {q1 q2 : Option Addr} {A B : Rc} {c1 c2 : Nat} (h1 : TL w q1 A) (h2 : TL w q2 B) :
    ML (w.alloc (.cells #[.slice q1 A.length c1, .slice q2 B.length c2] 23)) (some ⟨w.heap.size, 0, none⟩) [A, B] := by
  have hb := heap_alloc_last w (.cells #[.slice q1 A.length c1, .slice q2 B.length c2] 23)
  have hbel : Below w.heap.size w (w.alloc (.cells #[.slice q1 A.length c1, .slice q2 B.length c2] 23)) := (Below.refl _ _).alloc (Nat.le_refl _) _
  obtain ⟨c0, c1'⟩ := cells_two hb
  refine .inr ⟨w.heap.size, 0, rfl, lt_of_heap hb, fun k hk => ?_⟩
  rcases (show k = 0 ∨ k = 1 by simp only [List.length_cons, List.length_nil] at hk; omega) with rfl | rfl
  · exact ⟨q1, c1, c0, h1.below hbel⟩
  · exact ⟨q2, c2, c1', h2.below hbel⟩
theorem TL.alloc {w : World} {p : Option Addr} {S : Rc} (h : TL w p S) (o : Obj) : TL (w.alloc o) p S := h.below ((Below.refl _ _).alloc (Nat.le_refl _) _)
theorem FL.alloc {w : World} {p : Option Addr} {L : List Nat} (h : FL w p L) (o : Obj) : FL (w.alloc o) p L := h.below ((Below.refl _ _).alloc (Nat.le_refl _) _)
theorem TL.litAt (w : World) (g : Nat) (hg : w.heap.size = g) (S : Rc) (cs : Array Value) (h : cs.toList = flat S) (hs : S.length ≤ 1000000) : TL (w.alloc (.cells cs 26)) (some ⟨g, 0, none⟩) S := by subst hg; exact TL.lit w S cs h hs
theorem FL.litAt (w : World) (g : Nat) (hg : w.heap.size = g) (L : List Nat) (cs : Array Value) (h : cs.toList = L.map encF) (hs : L.length ≤ 1000000) : FL (w.alloc (.cells cs 24)) (some ⟨g, 0, none⟩) L := by subst hg; exact FL.lit w L cs h hs
abbrev Bel (W : World) (w' : World) : Prop := Below W.heap.size W w'
theorem c61a (w : World) (g1 g2 g3 c : Nat) (h1 : w.heap.size = g1) (h2 : w.heap.size + 1 = g2) (h3 : w.heap.size + 1 + 1 = g3) : Calls Try.prog 61 #[.slice (some ⟨g3, 0, none⟩) 2 c] (((w.alloc (.cells #[.int .i64 1, .float .f64 4611686018427387904, .int .i64 3, .float .f64 4617315517961601024] 26)).alloc (.cells #[.int .i64 3, .float .f64 4619567317775286272, .int .i64 2, .float .f64 9221120237041090561] 26)).alloc (.cells #[.slice (some ⟨g1, 0, none⟩) 2 2, .slice (some ⟨g2, 0, none⟩) 2 2] 23))
    fun e w' => (∃ v w1, e = .returned (.tuple #[v, .agg #[.int .i64 0, .int .i64 0]]) ∧ w' = w1 ∧ ∃ p c, v = .slice p 2 c ∧ TL w' p [(1, 4611686018427387904), (3, 4618441417868443648)]) ∧ Below w.heap.size w w' := by
  subst h1 h2 h3
  refine (nMG (c := c) (by
    have HA1 := TL.lit w [(1, 4611686018427387904), (3, 4617315517961601024)] #[.int .i64 1, .float .f64 4611686018427387904, .int .i64 3, .float .f64 4617315517961601024] rfl (by decide)
    have HA2 := TL.lit (w.alloc (.cells #[.int .i64 1, .float .f64 4611686018427387904, .int .i64 3, .float .f64 4617315517961601024] 26)) [(3, 4619567317775286272), (2, 9221120237041090561)] #[.int .i64 3, .float .f64 4619567317775286272, .int .i64 2, .float .f64 9221120237041090561] rfl (by decide)
    have HM := ML.lit2 (c1 := 2) (c2 := 2) (HA1.alloc (.cells #[.int .i64 3, .float .f64 4619567317775286272, .int .i64 2, .float .f64 9221120237041090561] 26)) HA2
    simpa [MG] using HM)).mono ?_
  rintro e w' ⟨⟨v, rfl, ho⟩, hb⟩
  obtain ⟨p, c', rfl⟩ := SL.slice ho
  exact ⟨⟨_, _, rfl, rfl, p, c', rfl, SL.tl ho⟩, (((((Grew.refl w).alloc _).alloc _).alloc _).step hb).below⟩
theorem c61b (w : World) (g1 g2 c : Nat) (h1 : w.heap.size = g1) (h2 : w.heap.size + 1 = g2) : Calls Try.prog 61 #[.slice (some ⟨g2, 0, none⟩) 2 c] ((w.alloc (.cells #[.int .i64 (-1), .float .f64 0] 26)).alloc (.cells #[.slice none 0 0, .slice (some ⟨g1, 0, none⟩) 1 1] 23))
    fun e w' => (∃ v, e = .returned (.tuple #[v, .agg #[.int .i64 2, .int .i64 1]])) ∧ Below w.heap.size w w' := by
  subst h1 h2
  refine (nMB (c := c) (by
    have HA1 := TL.lit w [(-1, 0)] #[.int .i64 (-1), .float .f64 0] rfl (by decide)
    have HA0 : TL (w.alloc (.cells #[.int .i64 (-1), .float .f64 0] 26)) none [] := .inl rfl
    have HM := ML.lit2 (c1 := 0) (c2 := 1) HA0 HA1
    simpa [MB] using HM)).mono ?_
  rintro e w' ⟨h, hb⟩
  exact ⟨h, ((((Grew.refl w).alloc _).alloc _).step hb).below⟩
theorem c61c (w : World) (p : Option Addr) (c : Nat) : Calls Try.prog 61 #[.slice p 17 c] w fun e w' => e = .returned (.tuple #[.slice none 0 0, .agg #[.int .i64 3, .int .i64 (-1)]]) ∧ Below w.heap.size w w' := merge_many p 17 c w (by decide)
theorem c48a (w : World) (g c d : Nat) (p : Option Addr) (hg : w.heap.size = g) (h : TL w p [(1, 4611686018427387904), (3, 4618441417868443648)]) :
    Calls Try.prog 48 #[.slice p 2 c, .slice (some ⟨g, 0, none⟩) 2 d] (w.alloc (.cells #[.int .i64 1, .float .f64 4611686018427387904, .int .i64 3, .float .f64 4618441417868443648] 26)) fun e w' => e = .returned (.bool true) ∧ Below w.heap.size w w' := by
  refine (samel_any p (some ⟨g, 0, none⟩) 2 c d [(1, 4611686018427387904), (3, 4618441417868443648)] _ rfl (h.alloc _) (TL.litAt w g hg _ _ rfl (by decide)) (by decide)).mono ?_
  rintro e w' ⟨rfl, q, rfl⟩
  exact ⟨rfl, (((Grew.refl w).alloc _).drewN _).below⟩
theorem c48b (w : World) (g c d : Nat) (p : Option Addr) (hg : w.heap.size = g) (h : TL w p [(1, 0), (2, 4607182418800017408), (3, 4611686018427387904), (4, 4613937818241073152), (9, 4613937818241073152)]) :
    Calls Try.prog 48 #[.slice p 5 c, .slice (some ⟨g, 0, none⟩) 5 d] (w.alloc (.cells #[.int .i64 1, .float .f64 0, .int .i64 2, .float .f64 4607182418800017408, .int .i64 3, .float .f64 4611686018427387904, .int .i64 4, .float .f64 4613937818241073152, .int .i64 9, .float .f64 4613937818241073152] 26)) fun e w' => e = .returned (.bool true) ∧ Below w.heap.size w w' := by
  refine (samel_any p (some ⟨g, 0, none⟩) 5 c d [(1, 0), (2, 4607182418800017408), (3, 4611686018427387904), (4, 4613937818241073152), (9, 4613937818241073152)] _ rfl (h.alloc _) (TL.litAt w g hg _ _ rfl (by decide)) (by decide)).mono ?_
  rintro e w' ⟨rfl, q, rfl⟩
  exact ⟨rfl, (((Grew.refl w).alloc _).drewN _).below⟩
theorem c50a (w : World) (g c : Nat) (hg : w.heap.size = g) : Calls Try.prog 50 #[.slice (some ⟨g, 0, none⟩) 3 c] (w.alloc (.cells #[.float .f64 4607182418800017408, .float .f64 4611686018427387904, .float .f64 4616752568008179712] 24)) fun e w' => e = .returned (.tuple #[.float .f64 4612811918334230528, .int .i64 0]) ∧ Below w.heap.size w w' :=
  (nMean rfl (FL.litAt w g hg [4607182418800017408, 4611686018427387904, 4616752568008179712] _ rfl (by decide)) (by decide) m1 (by decide)).mono fun e w' ⟨h1, hb⟩ => ⟨h1, (((Grew.refl w).alloc _).step hb).below⟩
theorem c50b (w : World) (g c : Nat) (hg : w.heap.size = g) : Calls Try.prog 50 #[.slice (some ⟨g, 0, none⟩) 3 c] (w.alloc (.cells #[.float .f64 9221120237041090561, .float .f64 9218868437227405312, .float .f64 4613937818241073152] 24)) fun e w' => e = .returned (.tuple #[.float .f64 4613937818241073152, .int .i64 0]) ∧ Below w.heap.size w w' :=
  (nMean rfl (FL.litAt w g hg [9221120237041090561, 9218868437227405312, 4613937818241073152] _ rfl (by decide)) (by decide) m2 (by decide)).mono fun e w' ⟨h1, hb⟩ => ⟨h1, (((Grew.refl w).alloc _).step hb).below⟩
theorem c50c (w : World) : Calls Try.prog 50 #[.slice none 0 0] w fun e w' => e = .returned (.tuple #[.float .f64 0, .int .i64 0]) ∧ Below w.heap.size w w' := nMean (L := []) rfl (.inl rfl) (by decide) m3 (by decide)
theorem c50d (w : World) (g c : Nat) (hg : w.heap.size = g) : Calls Try.prog 50 #[.slice (some ⟨g, 0, none⟩) 2 c] (w.alloc (.cells #[.float .f64 9214871658872686752, .float .f64 9214871658872686752] 24)) fun e w' => e = .returned (.tuple #[.float .f64 0, .int .i64 9]) ∧ Below w.heap.size w w' :=
  (nMean rfl (FL.litAt w g hg [9214871658872686752, 9214871658872686752] _ rfl (by decide)) (by decide) m4 (by decide)).mono fun e w' ⟨h1, hb⟩ => ⟨h1, (((Grew.refl w).alloc _).step hb).below⟩
theorem c45a (w : World) (g c : Nat) (hg : w.heap.size = g) : Calls Try.prog 45 #[.slice (some ⟨g, 0, none⟩) 2 c] (w.alloc (.cells #[.float .f64 9214871658872686752, .float .f64 9214871658872686752] 24)) fun e w' => e = .returned (.tuple #[.float .f64 9214871658872686752, .bool true]) ∧ Below w.heap.size w w' :=
  (nMed rfl (FL.litAt w g hg [9214871658872686752, 9214871658872686752] _ rfl (by decide)) (by decide) d1 (by decide)).mono fun e w' ⟨h1, hb⟩ => ⟨h1, (((Grew.refl w).alloc _).step hb).below⟩
theorem c45b (w : World) (g c : Nat) (hg : w.heap.size = g) : Calls Try.prog 45 #[.slice (some ⟨g, 0, none⟩) 1 c] (w.alloc (.cells #[.float .f64 9221120237041090561] 24)) fun e w' => e = .returned (.tuple #[.float .f64 0, .bool false]) ∧ Below w.heap.size w w' :=
  (nMed rfl (FL.litAt w g hg [9221120237041090561] _ rfl (by decide)) (by decide) d2 (by decide)).mono fun e w' ⟨h1, hb⟩ => ⟨h1, (((Grew.refl w).alloc _).step hb).below⟩
theorem c23 (T : List Int) (hT : T.length ≤ 5000) (cs : Array Value) (hcs : cs.toList = T.map iv) (w : World) (g b d : Nat) (v : Value) (hg : w.heap.size = g) (h : w.ownsRow b 3 1 v T.length (T.map iv)) :
    Calls Try.prog 23 #[v, .slice (some ⟨g, 0, none⟩) T.length T.length] (w.alloc (.cells cs 3)) fun e w' => e = .returned (.bool true) ∧ Below w.heap.size w w' := by
  subst hg
  have hl : cs.size = T.length * 1 := by have : cs.toList.length = (T.map iv).length := by rw [hcs]
                                         simpa using this
  have hr := row_lit w 0 3 1 T.length cs (Nat.zero_le _) hl (by unfold maxLen; omega)
  rw [hcs] at hr
  refine (sameInts_true (h.alloc _) hr hT).mono ?_
  rintro e w' ⟨rfl, hb⟩
  exact ⟨rfl, (((Grew.refl w).alloc _).step hb).below⟩
theorem c47a (w : World) (g c : Nat) (hg : w.heap.size = g) : Calls Try.prog 47 #[.slice (some ⟨g, 0, none⟩) 3 c] (w.alloc (.cells #[.int .i64 1, .float .f64 0, .int .i64 4, .float .f64 4613937818241073152, .int .i64 9, .float .f64 4613937818241073152] 26)) fun e w' => (∃ p c, e = .returned (.tuple #[.slice p 5 c, .int .i64 0]) ∧ TL w' p [(1, 0), (2, 4607182418800017408), (3, 4611686018427387904), (4, 4613937818241073152), (9, 4613937818241073152)]) ∧ Below w.heap.size w w' := by
  refine (nFX (TL.litAt w g hg FX _ rfl (by decide))).mono ?_
  rintro e w' ⟨⟨v, rfl, ho⟩, hb⟩
  obtain ⟨p, c', rfl⟩ := SL.slice ho
  exact ⟨⟨p, c', rfl, SL.tl ho⟩, (((Grew.refl w).alloc _).step hb).below⟩
theorem c65a (w : World) (g c d : Nat) (p : Option Addr) (hg : w.heap.size = g) : Calls Try.prog 65 #[.slice p 5 c, .slice (some ⟨g, 0, none⟩) 2 d] (w.alloc (.cells #[.int .i64 1, .int .i64 0] 3)) fun e w' => e = .returned (.tuple #[.slice none 0 0, .int .i64 2]) ∧ Below w.heap.size w w' := by
  subst hg
  obtain ⟨h0, h1⟩ := cells_two (heap_alloc_last w (.cells #[.int .i64 1, .int .i64 0] 3))
  refine (without_bad p c _ d _ h0 h1).mono ?_
  rintro e w' ⟨rfl, rfl⟩
  exact ⟨rfl, ((Grew.refl w).alloc _).below⟩
theorem c65b (w : World) (g c d : Nat) (p : Option Addr) (hg : w.heap.size = g) (h : TL w p SP) : Calls Try.prog 65 #[.slice p 5 c, .slice (some ⟨g, 0, none⟩) 2 d] (w.alloc (.cells #[.int .i64 0, .int .i64 2] 3)) fun e w' => (∃ p c, e = .returned (.tuple #[.slice p 3 c, .int .i64 0])) ∧ Below w.heap.size w w' := by
  subst hg
  have hb := heap_alloc_last w (.cells #[.int .i64 0, .int .i64 2] 3)
  obtain ⟨h0, h1⟩ := cells_two hb
  refine (without_ok p c _ d _ (h.alloc _) (lt_of_heap hb) h0 h1).mono ?_
  rintro e w' ⟨⟨v, rfl, ho⟩, hb⟩
  obtain ⟨p, c', rfl⟩ := SL.slice ho
  exact ⟨⟨p, c', rfl⟩, (((Grew.refl w).alloc _).step hb).below⟩
theorem info23 : (Try.prog.info? 23).map (fun i => (i.zero, i.size, i.bytes)) = some (some (.slice none 0 0), 1, 24) := by kernel_rfl
theorem make17 : ∃ cs : Array Value, ∀ W : World, (Instr.makeSlice 95 (.int .i64 17) (.int .i64 17)).run Try.prog W = .ok (.slice (some ⟨W.heap.size, 0, none⟩) 17 17) (W.alloc (.cells cs 23)) := by
  obtain ⟨i0, hi, hz, h1, h2⟩ := info_parts info23
  exact ⟨_, fun W => run_makeSlice W 95 23 i0 _ Try.underlying95 hi hz .i64 .i64 17 17 (by decide) (by decide) (by rw [h1]; decide) (by rw [h2]; decide) (by decide)⟩
end Go.Proofs.Ytlgnidjkilbdfaa
