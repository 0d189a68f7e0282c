/- steps.do, no error yet, one for each function that is handed over. -/
import Derived.Test.YtcibbnphkpaifaaSc
namespace Go.Proofs.Ytcibbnphkpaifaa
open Go.RowKit
set_option linter.unusedVariables false
set_option maxRecDepth 100000
theorem boxes4 (w : World) (na : Bool) (pa : Option Addr) (la ca : Nat) (qa : Option Addr) (ma da : Nat) (nb : Bool) (pb : Option Addr) (lb cb : Nat) (qb : Option Addr) (mb db : Nat) :
    ∀ W, Below ((((w.alloc (boxR na pa la ca qa ma da)).alloc (boxR nb pb lb cb qb mb db)).alloc (boxR false none 0 0 none 0 0)).alloc (boxR false none 0 0 none 0 0)).heap.size ((((w.alloc (boxR na pa la ca qa ma da)).alloc (boxR nb pb lb cb qb mb db)).alloc (boxR false none 0 0 none 0 0)).alloc (boxR false none 0 0 none 0 0)) W →
      (W.cell? ⟨w.heap.size, 0, none⟩ = some (.bool na) ∧ W.cell? ⟨w.heap.size, 1, none⟩ = some (.slice pa la ca) ∧ W.cell? ⟨w.heap.size, 2, none⟩ = some (.slice qa ma da)) ∧
      (W.cell? ⟨w.heap.size + 1, 0, none⟩ = some (.bool nb) ∧ W.cell? ⟨w.heap.size + 1, 1, none⟩ = some (.slice pb lb cb) ∧ W.cell? ⟨w.heap.size + 1, 2, none⟩ = some (.slice qb mb db)) ∧
      W.heap[w.heap.size + 1 + 1]? = some (boxR false none 0 0 none 0 0) ∧ W.heap[w.heap.size + 1 + 1 + 1]? = some (boxR false none 0 0 none 0 0) := by
  intro W h
  have h0 := boxes3 w _ _ na pa la ca qa ma da nb pb lb cb qb mb db rfl rfl W (((below_alloc _ _).trans (h.mono (by simp))))
  refine ⟨h0.1, h0.2.1, h0.2.2, ?_⟩
  have h4 : ((((w.alloc (boxR na pa la ca qa ma da)).alloc (boxR nb pb lb cb qb mb db)).alloc (boxR false none 0 0 none 0 0)).alloc (boxR false none 0 0 none 0 0)).heap[w.heap.size + 1 + 1 + 1]? = some (boxR false none 0 0 none 0 0) := by
    have e : (((w.alloc (boxR na pa la ca qa ma da)).alloc (boxR nb pb lb cb qb mb db)).alloc (boxR false none 0 0 none 0 0)).heap.size = w.heap.size + 1 + 1 + 1 := by simp
    rw [← e]
    exact heap_alloc_last _ _
  exact (h.block _ (lt_of_heap h4)).trans h4
/-- What steps.do leaves behind. -/
def ResD (g : Nat) (w : World) (x : Rat) (e : Ending) (w' : World) : Prop := ∃ v k, e = .returned v ∧ w'.heap[g]? = some (.cells #[.int .i64 k] 127) ∧ w.grownBy w' (some g) ∧ ((Fits x ∧ k = 0 ∧ RO w' w.heap.size v x) ∨ (¬ Fits x ∧ k = 3 ∧ v = zeroR))
theorem row_other {w : World} {g B : Nat} {cs : Array Value} {o : Obj} (h : w.heap[g]? = some o) (hne : g ≠ B) : (w.setRow B cs).heap[g]? = some o := (Go.setRow_other w B g cs hne).trans h
theorem cell_other {w : World} {g B : Nat} {x : Value} {o : Obj} (h : w.heap[B]? = some o) (hne : g ≠ B) : (w.setCell ⟨g, 0, none⟩ x).heap[B]? = some o := (set_other (p := ⟨g, 0, none⟩) hne).trans h
theorem set1_heap {w : World} {g : Nat} {a x : Value} {T : TypeId} (h : w.heap[g]? = some (.cells #[a] T)) : (w.setCell ⟨g, 0, none⟩ x).heap[g]? = some (.cells #[x] T) := by
  simp [World.setCell, Array.getElem?_modify, h]
theorem grown_below {a b : World} (h : Below a.heap.size a b) (row : Option Nat) : a.grownBy b row := ⟨h.os, h.tape, h.output, h.size, fun i hi _ => h.block i hi⟩
theorem grown_setRow' {a b : World} {g B : Nat} (h : a.grownBy b (some g)) (hB : a.heap.size ≤ B) (cs : Array Value) : a.grownBy (b.setRow B cs) (some g) :=
  ⟨h.os, h.tape, h.output, by simpa [World.setRow] using h.size, fun i hi hne => (Go.setRow_other b B i cs (by omega)).trans (h.block i hi hne)⟩
theorem grown_setOne {a b : World} {g : Nat} (h : a.grownBy b (some g)) (x : Value) : a.grownBy (b.setCell ⟨g, 0, none⟩ x) (some g) :=
  ⟨h.os, h.tape, h.output, by simpa [World.setCell] using h.size, fun i hi hne => (set_other (p := ⟨g, 0, none⟩) (fun e => hne (by rw [← e]))).trans (h.block i hi hne)⟩
theorem RO.grown {w w' : World} {base g : Nat} {v : Value} {x : Rat} (h : RO w base v x) (hg : w.grownBy w' (some g)) (hb : g < base) : RO w' base v x := by
  obtain ⟨p, c, q, d, e, h1, h2, h3⟩ := h
  exact ⟨p, c, q, d, e, h1.kept hg (ne_block h1 hb), h2.kept hg (ne_block h2 hb), h3⟩
/-- The same, whatever stood there. -/
def ResK (g : Nat) (w : World) (k : Int) (x : Rat) (e : Ending) (w' : World) : Prop := ∃ s p n c q m d k', e = .returned (.agg #[.bool s, .slice p n c, .slice q m d]) ∧ w'.heap[g]? = some (.cells #[.int .i64 k'] 127) ∧ w.grownBy w' (some g) ∧ (k' = 0 ∨ k' = 3) ∧ (k' = 0 ↔ k = 0 ∧ Fits x) ∧ (k' = 0 → RO w' w.heap.size (.agg #[.bool s, .slice p n c, .slice q m d]) x) ∧ (k' ≠ 0 → Value.agg #[.bool s, .slice p n c, .slice q m d] = zeroR)
theorem resK_ok {g : Nat} {w w' : World} {x : Rat} {e : Ending} (h : ResD g w x e w') : ResK g w 0 x e w' := by
  obtain ⟨v, k, rfl, h1, h2, ⟨hf, rfl, ho⟩ | ⟨hf, rfl, rfl⟩⟩ := h
  · obtain ⟨p, c, q, d, rfl, h3⟩ := ho
    exact ⟨_, _, _, _, _, _, _, 0, rfl, h1, h2, .inl rfl, by simp [hf], fun _ => ⟨p, c, q, d, rfl, h3⟩, fun h => absurd rfl h⟩
  · exact ⟨_, _, _, _, _, _, _, 3, rfl, h1, h2, .inr rfl, by simp [hf], fun h => absurd h (by decide), fun _ => rfl⟩
theorem resK_err {g : Nat} {w w' : World} {x : Rat} {e : Ending} {k : Int} (hg : w.heap[g]? = some (.cells #[.int .i64 k] 127)) (hk : k = 0 ∨ k = 3) (h0 : k ≠ 0) (h : e = .returned zeroR ∧ Below w.heap.size w w') : ResK g w k x e w' := by
  obtain ⟨rfl, hb⟩ := h
  exact ⟨_, _, _, _, _, _, _, k, rfl, (hb.block g (lt_of_heap hg)).trans hg, grown_below hb _, hk, by simp [h0], fun h => absurd h h0, fun _ => rfl⟩
set_option maxHeartbeats 3200000 in
theorem do_mul (g : Nat) (w : World) (s s' : Bool) (p q p' q' : Option Addr) (n m c d n' m' c' d' : Nat) (x : Rat) (hg : w.heap[g]? = some (.cells #[.int .i64 0] 127))
    (HF : Hid (∀ W, Below w.heap.size w W → Calls Try.prog 74 #[.agg #[.bool s, .slice p n c, .slice q m d], .agg #[.bool s', .slice p' n' c', .slice q' m' d']] W (ResR W x))) :
    Calls Try.prog 89 #[.pointer (some ⟨g, 0, none⟩), .func (.func 74) #[] #[], .agg #[.bool s, .slice p n c, .slice q m d], .agg #[.bool s', .slice p' n' c', .slice q' m' d']] w (ResD g w x) := by
  have hgl := lt_of_heap hg
  have HB := hide_ (boxes4 w s p n c q m d s' p' n' c' q' m' d')
  unfold boxR at HB
  have hb0 : Below w.heap.size w ((((w.alloc (.cells #[.bool s, .slice p n c, .slice q m d] 32)).alloc (.cells #[.bool s', .slice p' n' c', .slice q' m' d'] 32)).alloc (.cells #[.bool false, .slice none 0 0, .slice none 0 0] 32)).alloc (.cells #[.bool false, .slice none 0 0, .slice none 0 0] 32)) := (((below_alloc _ _).alloc (by simp) _).alloc (by simp; omega) _).alloc (by simp; omega) _
  have hb0' : Below w.heap.size w (((w.alloc (.cells #[.bool s, .slice p n c, .slice q m d] 32)).alloc (.cells #[.bool s', .slice p' n' c', .slice q' m' d'] 32)).alloc (.cells #[.bool false, .slice none 0 0, .slice none 0 0] 32)) := ((below_alloc _ _).alloc (by simp) _).alloc (by simp; omega) _
  have he0 := (hb0'.cell (p := ⟨g, 0, none⟩) hgl).trans (cells_one hg)
  obtain ⟨⟨a0, a1, a2⟩, ⟨b0, b1, b2⟩, _, _⟩ := HB.out _ (Below.refl _ _)
  go_enter Try.func89, Try.ntmps89
  go_wp2_with (first
    | (go_at_call 74; go_must (
        (with_reducible refine (HF.out _ hb0).mono ?_)
        rintro e w4 h4
        obtain ⟨s4, p4, n4, c4, q4, m4, d4, er4, rfl⟩ := h4.form
        have H4 := hide_ h4
        obtain ⟨_, _, hr4, hr5⟩ := HB.out _ h4.2
        have hb4 := hb0.trans (h4.2.mono hb0.size)
        have hg4 := (hb4.block g hgl).trans hg
        have hg5 : (w4.setRow (w.heap.size + 1 + 1 + 1) #[.bool s4, .slice p4 n4 c4, .slice q4 m4 d4]).heap[g]? = some (.cells #[.int .i64 0] 127) := row_other hg4 (by omega)
        have hc5 := cells_one hg5
        have hf5 := free_one hg5
        have hr6 : ((w4.setRow (w.heap.size + 1 + 1 + 1) #[.bool s4, .slice p4 n4 c4, .slice q4 m4 d4]).setCell ⟨g, 0, none⟩ (.int .i64 er4)).heap[w.heap.size + 1 + 1]? = some (.cells #[.bool false, .slice none 0 0, .slice none 0 0] 32) := cell_other (row_other hr4 (by omega)) (by omega)
        have hr7 : ((w4.setRow (w.heap.size + 1 + 1 + 1) #[.bool s4, .slice p4 n4 c4, .slice q4 m4 d4]).setCell ⟨g, 0, none⟩ (.int .i64 er4)).heap[w.heap.size + 1 + 1 + 1]? = some (.cells #[.bool s4, .slice p4 n4 c4, .slice q4 m4 d4] 32) := cell_other (setRow_heap _ _ _ _ _ _ hr5) (by omega)
        obtain ⟨t0, t1, t2⟩ := cells_three hr7
        clear a0 a1 a2 b0 b1 b2 he0))
    | ((with_reducible apply wpList_store_blk); (with_reducible rfl); (with_reducible rfl); rfl; assumption; rfl; kernel_rfl; rfl; kernel_rfl))
  refine ret_c rfl (w.heap.size + 1 + 1) 32 _ _ rfl (setRow_heap _ _ _ _ _ _ hr6) Try.underlying32 rfl (by kernel_rfl) rfl ?_
  have hG : w.grownBy (((w4.setRow (w.heap.size + 1 + 1 + 1) #[.bool s4, .slice p4 n4 c4, .slice q4 m4 d4]).setCell ⟨g, 0, none⟩ (.int .i64 er4)).setRow (w.heap.size + 1 + 1) #[.bool s4, .slice p4 n4 c4, .slice q4 m4 d4]) (some g) := grown_setRow' (grown_setOne (grown_setRow' (grown_below hb4 _) (by omega) _) _) (by omega) _
  refine ⟨_, er4, rfl, row_other (set1_heap hg5) (by omega), hG, ?_⟩
  rcases H4.out.1 with ⟨hf, v, e1, ho⟩ | ⟨hf, e1⟩
  · simp only [Ending.returned.injEq, Value.tuple.injEq, Array.mk.injEq, List.cons.injEq, Value.int.injEq] at e1
    obtain ⟨e1, ⟨_, e2⟩, _⟩ := e1
    subst e1 e2
    refine .inl ⟨hf, rfl, ?_⟩
    refine ((((ho.stored (W := w) (by simp)).grown (g := g) (grown_setOne (grown_below (Below.refl _ _) _) _) (by simp; omega)).stored (W := w) (by simp)).mono (by simp; omega))
  · unfold zeroR at e1
    simp only [Ending.returned.injEq, Value.tuple.injEq, Array.mk.injEq, List.cons.injEq, Value.int.injEq] at e1
    obtain ⟨e1, ⟨_, e2⟩, _⟩ := e1
    refine .inr ⟨hf, e2, e1⟩
theorem do_mul_k (g : Nat) (k : Int) (w : World) (va vb : Value) (x : Rat) (hg : w.heap[g]? = some (.cells #[.int .i64 k] 127)) (hk : k = 0 ∨ k = 3)
    (hva : ∃ s p n c q m d, va = .agg #[.bool s, .slice p n c, .slice q m d]) (hvb : ∃ s p n c q m d, vb = .agg #[.bool s, .slice p n c, .slice q m d])
    (HF : k = 0 → ∀ W, Below w.heap.size w W → Calls Try.prog 74 #[va, vb] W (ResR W x)) :
    Calls Try.prog 89 #[.pointer (some ⟨g, 0, none⟩), .func (.func 74) #[] #[], va, vb] w (ResK g w k x) := by
  obtain ⟨s, p, n, c, q, m, d, rfl⟩ := hva
  obtain ⟨s', p', n', c', q', m', d', rfl⟩ := hvb
  by_cases h0 : k = 0
  · subst h0
    exact (do_mul g w s s' p q p' q' n m c d n' m' c' d' x hg (hide_ (HF rfl))).mono fun _ _ h => resK_ok h
  · exact (do_err g k _ w s s' p q p' q' n m c d n' m' c' d' (lt_of_heap hg) (cells_one hg) h0).mono fun _ _ h => resK_err hg hk h0 h
set_option maxHeartbeats 3200000 in
theorem do_sub (g : Nat) (w : World) (s s' : Bool) (p q p' q' : Option Addr) (n m c d n' m' c' d' : Nat) (x : Rat) (hg : w.heap[g]? = some (.cells #[.int .i64 0] 127))
    (HF : Hid (∀ W, Below w.heap.size w W → Calls Try.prog 47 #[.agg #[.bool s, .slice p n c, .slice q m d], .agg #[.bool s', .slice p' n' c', .slice q' m' d']] W (ResR W x))) :
    Calls Try.prog 89 #[.pointer (some ⟨g, 0, none⟩), .func (.func 47) #[] #[], .agg #[.bool s, .slice p n c, .slice q m d], .agg #[.bool s', .slice p' n' c', .slice q' m' d']] w (ResD g w x) := by
  have hgl := lt_of_heap hg
  have HB := hide_ (boxes4 w s p n c q m d s' p' n' c' q' m' d')
  unfold boxR at HB
  have hb0 : Below w.heap.size w ((((w.alloc (.cells #[.bool s, .slice p n c, .slice q m d] 32)).alloc (.cells #[.bool s', .slice p' n' c', .slice q' m' d'] 32)).alloc (.cells #[.bool false, .slice none 0 0, .slice none 0 0] 32)).alloc (.cells #[.bool false, .slice none 0 0, .slice none 0 0] 32)) := (((below_alloc _ _).alloc (by simp) _).alloc (by simp; omega) _).alloc (by simp; omega) _
  have hb0' : Below w.heap.size w (((w.alloc (.cells #[.bool s, .slice p n c, .slice q m d] 32)).alloc (.cells #[.bool s', .slice p' n' c', .slice q' m' d'] 32)).alloc (.cells #[.bool false, .slice none 0 0, .slice none 0 0] 32)) := ((below_alloc _ _).alloc (by simp) _).alloc (by simp; omega) _
  have he0 := (hb0'.cell (p := ⟨g, 0, none⟩) hgl).trans (cells_one hg)
  obtain ⟨⟨a0, a1, a2⟩, ⟨b0, b1, b2⟩, _, _⟩ := HB.out _ (Below.refl _ _)
  go_enter Try.func89, Try.ntmps89
  go_wp2_with (first
    | (go_at_call 47; go_must (
        (with_reducible refine (HF.out _ hb0).mono ?_)
        rintro e w4 h4
        obtain ⟨s4, p4, n4, c4, q4, m4, d4, er4, rfl⟩ := h4.form
        have H4 := hide_ h4
        obtain ⟨_, _, hr4, hr5⟩ := HB.out _ h4.2
        have hb4 := hb0.trans (h4.2.mono hb0.size)
        have hg4 := (hb4.block g hgl).trans hg
        have hg5 : (w4.setRow (w.heap.size + 1 + 1 + 1) #[.bool s4, .slice p4 n4 c4, .slice q4 m4 d4]).heap[g]? = some (.cells #[.int .i64 0] 127) := row_other hg4 (by omega)
        have hc5 := cells_one hg5
        have hf5 := free_one hg5
        have hr6 : ((w4.setRow (w.heap.size + 1 + 1 + 1) #[.bool s4, .slice p4 n4 c4, .slice q4 m4 d4]).setCell ⟨g, 0, none⟩ (.int .i64 er4)).heap[w.heap.size + 1 + 1]? = some (.cells #[.bool false, .slice none 0 0, .slice none 0 0] 32) := cell_other (row_other hr4 (by omega)) (by omega)
        have hr7 : ((w4.setRow (w.heap.size + 1 + 1 + 1) #[.bool s4, .slice p4 n4 c4, .slice q4 m4 d4]).setCell ⟨g, 0, none⟩ (.int .i64 er4)).heap[w.heap.size + 1 + 1 + 1]? = some (.cells #[.bool s4, .slice p4 n4 c4, .slice q4 m4 d4] 32) := cell_other (setRow_heap _ _ _ _ _ _ hr5) (by omega)
        obtain ⟨t0, t1, t2⟩ := cells_three hr7
        clear a0 a1 a2 b0 b1 b2 he0))
    | ((with_reducible apply wpList_store_blk); (with_reducible rfl); (with_reducible rfl); rfl; assumption; rfl; kernel_rfl; rfl; kernel_rfl))
  refine ret_c rfl (w.heap.size + 1 + 1) 32 _ _ rfl (setRow_heap _ _ _ _ _ _ hr6) Try.underlying32 rfl (by kernel_rfl) rfl ?_
  have hG : w.grownBy (((w4.setRow (w.heap.size + 1 + 1 + 1) #[.bool s4, .slice p4 n4 c4, .slice q4 m4 d4]).setCell ⟨g, 0, none⟩ (.int .i64 er4)).setRow (w.heap.size + 1 + 1) #[.bool s4, .slice p4 n4 c4, .slice q4 m4 d4]) (some g) := grown_setRow' (grown_setOne (grown_setRow' (grown_below hb4 _) (by omega) _) _) (by omega) _
  refine ⟨_, er4, rfl, row_other (set1_heap hg5) (by omega), hG, ?_⟩
  rcases H4.out.1 with ⟨hf, v, e1, ho⟩ | ⟨hf, e1⟩
  · simp only [Ending.returned.injEq, Value.tuple.injEq, Array.mk.injEq, List.cons.injEq, Value.int.injEq] at e1
    obtain ⟨e1, ⟨_, e2⟩, _⟩ := e1
    subst e1 e2
    refine .inl ⟨hf, rfl, ?_⟩
    refine ((((ho.stored (W := w) (by simp)).grown (g := g) (grown_setOne (grown_below (Below.refl _ _) _) _) (by simp; omega)).stored (W := w) (by simp)).mono (by simp; omega))
  · unfold zeroR at e1
    simp only [Ending.returned.injEq, Value.tuple.injEq, Array.mk.injEq, List.cons.injEq, Value.int.injEq] at e1
    obtain ⟨e1, ⟨_, e2⟩, _⟩ := e1
    refine .inr ⟨hf, e2, e1⟩
theorem do_sub_k (g : Nat) (k : Int) (w : World) (va vb : Value) (x : Rat) (hg : w.heap[g]? = some (.cells #[.int .i64 k] 127)) (hk : k = 0 ∨ k = 3)
    (hva : ∃ s p n c q m d, va = .agg #[.bool s, .slice p n c, .slice q m d]) (hvb : ∃ s p n c q m d, vb = .agg #[.bool s, .slice p n c, .slice q m d])
    (HF : k = 0 → ∀ W, Below w.heap.size w W → Calls Try.prog 47 #[va, vb] W (ResR W x)) :
    Calls Try.prog 89 #[.pointer (some ⟨g, 0, none⟩), .func (.func 47) #[] #[], va, vb] w (ResK g w k x) := by
  obtain ⟨s, p, n, c, q, m, d, rfl⟩ := hva
  obtain ⟨s', p', n', c', q', m', d', rfl⟩ := hvb
  by_cases h0 : k = 0
  · subst h0
    exact (do_sub g w s s' p q p' q' n m c d n' m' c' d' x hg (hide_ (HF rfl))).mono fun _ _ h => resK_ok h
  · exact (do_err g k _ w s s' p q p' q' n m c d n' m' c' d' (lt_of_heap hg) (cells_one hg) h0).mono fun _ _ h => resK_err hg hk h0 h
set_option maxHeartbeats 3200000 in
theorem do_add (g : Nat) (w : World) (s s' : Bool) (p q p' q' : Option Addr) (n m c d n' m' c' d' : Nat) (x : Rat) (hg : w.heap[g]? = some (.cells #[.int .i64 0] 127))
    (HF : Hid (∀ W, Below w.heap.size w W → Calls Try.prog 84 #[.agg #[.bool s, .slice p n c, .slice q m d], .agg #[.bool s', .slice p' n' c', .slice q' m' d']] W (ResR W x))) :
    Calls Try.prog 89 #[.pointer (some ⟨g, 0, none⟩), .func (.func 84) #[] #[], .agg #[.bool s, .slice p n c, .slice q m d], .agg #[.bool s', .slice p' n' c', .slice q' m' d']] w (ResD g w x) := by
  have hgl := lt_of_heap hg
  have HB := hide_ (boxes4 w s p n c q m d s' p' n' c' q' m' d')
  unfold boxR at HB
  have hb0 : Below w.heap.size w ((((w.alloc (.cells #[.bool s, .slice p n c, .slice q m d] 32)).alloc (.cells #[.bool s', .slice p' n' c', .slice q' m' d'] 32)).alloc (.cells #[.bool false, .slice none 0 0, .slice none 0 0] 32)).alloc (.cells #[.bool false, .slice none 0 0, .slice none 0 0] 32)) := (((below_alloc _ _).alloc (by simp) _).alloc (by simp; omega) _).alloc (by simp; omega) _
  have hb0' : Below w.heap.size w (((w.alloc (.cells #[.bool s, .slice p n c, .slice q m d] 32)).alloc (.cells #[.bool s', .slice p' n' c', .slice q' m' d'] 32)).alloc (.cells #[.bool false, .slice none 0 0, .slice none 0 0] 32)) := ((below_alloc _ _).alloc (by simp) _).alloc (by simp; omega) _
  have he0 := (hb0'.cell (p := ⟨g, 0, none⟩) hgl).trans (cells_one hg)
  obtain ⟨⟨a0, a1, a2⟩, ⟨b0, b1, b2⟩, _, _⟩ := HB.out _ (Below.refl _ _)
  go_enter Try.func89, Try.ntmps89
  go_wp2_with (first
    | (go_at_call 84; go_must (
        (with_reducible refine (HF.out _ hb0).mono ?_)
        rintro e w4 h4
        obtain ⟨s4, p4, n4, c4, q4, m4, d4, er4, rfl⟩ := h4.form
        have H4 := hide_ h4
        obtain ⟨_, _, hr4, hr5⟩ := HB.out _ h4.2
        have hb4 := hb0.trans (h4.2.mono hb0.size)
        have hg4 := (hb4.block g hgl).trans hg
        have hg5 : (w4.setRow (w.heap.size + 1 + 1 + 1) #[.bool s4, .slice p4 n4 c4, .slice q4 m4 d4]).heap[g]? = some (.cells #[.int .i64 0] 127) := row_other hg4 (by omega)
        have hc5 := cells_one hg5
        have hf5 := free_one hg5
        have hr6 : ((w4.setRow (w.heap.size + 1 + 1 + 1) #[.bool s4, .slice p4 n4 c4, .slice q4 m4 d4]).setCell ⟨g, 0, none⟩ (.int .i64 er4)).heap[w.heap.size + 1 + 1]? = some (.cells #[.bool false, .slice none 0 0, .slice none 0 0] 32) := cell_other (row_other hr4 (by omega)) (by omega)
        have hr7 : ((w4.setRow (w.heap.size + 1 + 1 + 1) #[.bool s4, .slice p4 n4 c4, .slice q4 m4 d4]).setCell ⟨g, 0, none⟩ (.int .i64 er4)).heap[w.heap.size + 1 + 1 + 1]? = some (.cells #[.bool s4, .slice p4 n4 c4, .slice q4 m4 d4] 32) := cell_other (setRow_heap _ _ _ _ _ _ hr5) (by omega)
        obtain ⟨t0, t1, t2⟩ := cells_three hr7
        clear a0 a1 a2 b0 b1 b2 he0))
    | ((with_reducible apply wpList_store_blk); (with_reducible rfl); (with_reducible rfl); rfl; assumption; rfl; kernel_rfl; rfl; kernel_rfl))
  refine ret_c rfl (w.heap.size + 1 + 1) 32 _ _ rfl (setRow_heap _ _ _ _ _ _ hr6) Try.underlying32 rfl (by kernel_rfl) rfl ?_
  have hG : w.grownBy (((w4.setRow (w.heap.size + 1 + 1 + 1) #[.bool s4, .slice p4 n4 c4, .slice q4 m4 d4]).setCell ⟨g, 0, none⟩ (.int .i64 er4)).setRow (w.heap.size + 1 + 1) #[.bool s4, .slice p4 n4 c4, .slice q4 m4 d4]) (some g) := grown_setRow' (grown_setOne (grown_setRow' (grown_below hb4 _) (by omega) _) _) (by omega) _
  refine ⟨_, er4, rfl, row_other (set1_heap hg5) (by omega), hG, ?_⟩
  rcases H4.out.1 with ⟨hf, v, e1, ho⟩ | ⟨hf, e1⟩
  · simp only [Ending.returned.injEq, Value.tuple.injEq, Array.mk.injEq, List.cons.injEq, Value.int.injEq] at e1
    obtain ⟨e1, ⟨_, e2⟩, _⟩ := e1
    subst e1 e2
    refine .inl ⟨hf, rfl, ?_⟩
    refine ((((ho.stored (W := w) (by simp)).grown (g := g) (grown_setOne (grown_below (Below.refl _ _) _) _) (by simp; omega)).stored (W := w) (by simp)).mono (by simp; omega))
  · unfold zeroR at e1
    simp only [Ending.returned.injEq, Value.tuple.injEq, Array.mk.injEq, List.cons.injEq, Value.int.injEq] at e1
    obtain ⟨e1, ⟨_, e2⟩, _⟩ := e1
    refine .inr ⟨hf, e2, e1⟩
theorem do_add_k (g : Nat) (k : Int) (w : World) (va vb : Value) (x : Rat) (hg : w.heap[g]? = some (.cells #[.int .i64 k] 127)) (hk : k = 0 ∨ k = 3)
    (hva : ∃ s p n c q m d, va = .agg #[.bool s, .slice p n c, .slice q m d]) (hvb : ∃ s p n c q m d, vb = .agg #[.bool s, .slice p n c, .slice q m d])
    (HF : k = 0 → ∀ W, Below w.heap.size w W → Calls Try.prog 84 #[va, vb] W (ResR W x)) :
    Calls Try.prog 89 #[.pointer (some ⟨g, 0, none⟩), .func (.func 84) #[] #[], va, vb] w (ResK g w k x) := by
  obtain ⟨s, p, n, c, q, m, d, rfl⟩ := hva
  obtain ⟨s', p', n', c', q', m', d', rfl⟩ := hvb
  by_cases h0 : k = 0
  · subst h0
    exact (do_add g w s s' p q p' q' n m c d n' m' c' d' x hg (hide_ (HF rfl))).mono fun _ _ h => resK_ok h
  · exact (do_err g k _ w s s' p q p' q' n m c d n' m' c' d' (lt_of_heap hg) (cells_one hg) h0).mono fun _ _ h => resK_err hg hk h0 h
set_option maxHeartbeats 3200000 in
theorem do_quo (g : Nat) (w : World) (s s' : Bool) (p q p' q' : Option Addr) (n m c d n' m' c' d' : Nat) (x : Rat) (hg : w.heap[g]? = some (.cells #[.int .i64 0] 127))
    (HF : Hid (∀ W, Below w.heap.size w W → Calls Try.prog 90 #[.agg #[.bool s, .slice p n c, .slice q m d], .agg #[.bool s', .slice p' n' c', .slice q' m' d']] W (ResR W x))) :
    Calls Try.prog 89 #[.pointer (some ⟨g, 0, none⟩), .func (.func 90) #[] #[], .agg #[.bool s, .slice p n c, .slice q m d], .agg #[.bool s', .slice p' n' c', .slice q' m' d']] w (ResD g w x) := by
  have hgl := lt_of_heap hg
  have HB := hide_ (boxes4 w s p n c q m d s' p' n' c' q' m' d')
  unfold boxR at HB
  have hb0 : Below w.heap.size w ((((w.alloc (.cells #[.bool s, .slice p n c, .slice q m d] 32)).alloc (.cells #[.bool s', .slice p' n' c', .slice q' m' d'] 32)).alloc (.cells #[.bool false, .slice none 0 0, .slice none 0 0] 32)).alloc (.cells #[.bool false, .slice none 0 0, .slice none 0 0] 32)) := (((below_alloc _ _).alloc (by simp) _).alloc (by simp; omega) _).alloc (by simp; omega) _
  have hb0' : Below w.heap.size w (((w.alloc (.cells #[.bool s, .slice p n c, .slice q m d] 32)).alloc (.cells #[.bool s', .slice p' n' c', .slice q' m' d'] 32)).alloc (.cells #[.bool false, .slice none 0 0, .slice none 0 0] 32)) := ((below_alloc _ _).alloc (by simp) _).alloc (by simp; omega) _
  have he0 := (hb0'.cell (p := ⟨g, 0, none⟩) hgl).trans (cells_one hg)
  obtain ⟨⟨a0, a1, a2⟩, ⟨b0, b1, b2⟩, _, _⟩ := HB.out _ (Below.refl _ _)
  go_enter Try.func89, Try.ntmps89
  go_wp2_with (first
    | (go_at_call 90; go_must (
        (with_reducible refine (HF.out _ hb0).mono ?_)
        rintro e w4 h4
        obtain ⟨s4, p4, n4, c4, q4, m4, d4, er4, rfl⟩ := h4.form
        have H4 := hide_ h4
        obtain ⟨_, _, hr4, hr5⟩ := HB.out _ h4.2
        have hb4 := hb0.trans (h4.2.mono hb0.size)
        have hg4 := (hb4.block g hgl).trans hg
        have hg5 : (w4.setRow (w.heap.size + 1 + 1 + 1) #[.bool s4, .slice p4 n4 c4, .slice q4 m4 d4]).heap[g]? = some (.cells #[.int .i64 0] 127) := row_other hg4 (by omega)
        have hc5 := cells_one hg5
        have hf5 := free_one hg5
        have hr6 : ((w4.setRow (w.heap.size + 1 + 1 + 1) #[.bool s4, .slice p4 n4 c4, .slice q4 m4 d4]).setCell ⟨g, 0, none⟩ (.int .i64 er4)).heap[w.heap.size + 1 + 1]? = some (.cells #[.bool false, .slice none 0 0, .slice none 0 0] 32) := cell_other (row_other hr4 (by omega)) (by omega)
        have hr7 : ((w4.setRow (w.heap.size + 1 + 1 + 1) #[.bool s4, .slice p4 n4 c4, .slice q4 m4 d4]).setCell ⟨g, 0, none⟩ (.int .i64 er4)).heap[w.heap.size + 1 + 1 + 1]? = some (.cells #[.bool s4, .slice p4 n4 c4, .slice q4 m4 d4] 32) := cell_other (setRow_heap _ _ _ _ _ _ hr5) (by omega)
        obtain ⟨t0, t1, t2⟩ := cells_three hr7
        clear a0 a1 a2 b0 b1 b2 he0))
    | ((with_reducible apply wpList_store_blk); (with_reducible rfl); (with_reducible rfl); rfl; assumption; rfl; kernel_rfl; rfl; kernel_rfl))
  refine ret_c rfl (w.heap.size + 1 + 1) 32 _ _ rfl (setRow_heap _ _ _ _ _ _ hr6) Try.underlying32 rfl (by kernel_rfl) rfl ?_
  have hG : w.grownBy (((w4.setRow (w.heap.size + 1 + 1 + 1) #[.bool s4, .slice p4 n4 c4, .slice q4 m4 d4]).setCell ⟨g, 0, none⟩ (.int .i64 er4)).setRow (w.heap.size + 1 + 1) #[.bool s4, .slice p4 n4 c4, .slice q4 m4 d4]) (some g) := grown_setRow' (grown_setOne (grown_setRow' (grown_below hb4 _) (by omega) _) _) (by omega) _
  refine ⟨_, er4, rfl, row_other (set1_heap hg5) (by omega), hG, ?_⟩
  rcases H4.out.1 with ⟨hf, v, e1, ho⟩ | ⟨hf, e1⟩
  · simp only [Ending.returned.injEq, Value.tuple.injEq, Array.mk.injEq, List.cons.injEq, Value.int.injEq] at e1
    obtain ⟨e1, ⟨_, e2⟩, _⟩ := e1
    subst e1 e2
    refine .inl ⟨hf, rfl, ?_⟩
    refine ((((ho.stored (W := w) (by simp)).grown (g := g) (grown_setOne (grown_below (Below.refl _ _) _) _) (by simp; omega)).stored (W := w) (by simp)).mono (by simp; omega))
  · unfold zeroR at e1
    simp only [Ending.returned.injEq, Value.tuple.injEq, Array.mk.injEq, List.cons.injEq, Value.int.injEq] at e1
    obtain ⟨e1, ⟨_, e2⟩, _⟩ := e1
    refine .inr ⟨hf, e2, e1⟩
theorem do_quo_k (g : Nat) (k : Int) (w : World) (va vb : Value) (x : Rat) (hg : w.heap[g]? = some (.cells #[.int .i64 k] 127)) (hk : k = 0 ∨ k = 3)
    (hva : ∃ s p n c q m d, va = .agg #[.bool s, .slice p n c, .slice q m d]) (hvb : ∃ s p n c q m d, vb = .agg #[.bool s, .slice p n c, .slice q m d])
    (HF : k = 0 → ∀ W, Below w.heap.size w W → Calls Try.prog 90 #[va, vb] W (ResR W x)) :
    Calls Try.prog 89 #[.pointer (some ⟨g, 0, none⟩), .func (.func 90) #[] #[], va, vb] w (ResK g w k x) := by
  obtain ⟨s, p, n, c, q, m, d, rfl⟩ := hva
  obtain ⟨s', p', n', c', q', m', d', rfl⟩ := hvb
  by_cases h0 : k = 0
  · subst h0
    exact (do_quo g w s s' p q p' q' n m c d n' m' c' d' x hg (hide_ (HF rfl))).mono fun _ _ h => resK_ok h
  · exact (do_err g k _ w s s' p q p' q' n m c d n' m' c' d' (lt_of_heap hg) (cells_one hg) h0).mono fun _ _ h => resK_err hg hk h0 h
end Go.Proofs.Ytcibbnphkpaifaa
