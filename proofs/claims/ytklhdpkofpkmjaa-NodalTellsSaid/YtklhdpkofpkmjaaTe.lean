/- NodalTells: the law's walk. -/
import Derived.Test.YtklhdpkofpkmjaaTl4
import Derived.Deep.Upon
namespace Go.Proofs.Ytklhdpkofpkmjaa
open Go.RowKit Ieee
set_option linter.unusedVariables false
set_option maxRecDepth 100000
theorem info9 : (Try.prog.info? 9).map (fun i => (i.zero, i.size, i.bytes)) = some (some (.string ⟨#[]⟩), 1, 16) := by kernel_rfl
def nmL (S : Nat → ByteArray) (k : Nat) : List Value := (List.range k).map fun j => .string (S j)
theorem nmL_at (S : Nat → ByteArray) (k j : Nat) (hj : j < k) : (nmL S k)[j]? = some (.string (S j)) := by
  unfold nmL
  simp [hj]
theorem nmL_len (S : Nat → ByteArray) (k : Nat) : (nmL S k).length = k := by simp [nmL]
theorem own_heap {w w' : World} {base n : Nat} {e : TypeId} {size : Nat} {v : Value} {xs : List Value} (h : w.ownsRow base e size v n xs) (hh : ∀ g, v.ownBlock = some g → w'.heap[g]? = w.heap[g]?) : w'.ownsRow base e size v n xs := by
  refine ⟨h.1, ?_⟩
  rcases h.2 with h0 | ⟨g, cap, cur, rfl, h1, h2, h3⟩
  · exact .inl h0
  · exact .inr ⟨g, cap, cur, rfl, h1, (hh g rfl).trans h2, h3⟩
theorem own_cap {w : World} {base n g c : Nat} {e : TypeId} {size : Nat} {xs : List Value} (h : w.ownsRow base e size (.slice (some ⟨g, 0, none⟩) n c) n xs) : n ≤ c ∧ c ≤ maxLen := by
  rcases h.2 with ⟨h0, _⟩ | ⟨g', cap, cur, hv, h1, h2, h3, h4, _⟩
  · cases h0
  · cases hv
    exact ⟨h3, h4⟩
theorem past_eq {w : World} {g : Nat} (hl : g < w.heap.size) (a b c d : Array Value) (S T : TypeId) : ((((w.alloc (.cells a S)).alloc (.cells b T)).setRow w.heap.size c).setRow (w.heap.size + 1) d).heap[g]? = w.heap[g]? :=
  (setRow_other _ _ _ _ (by omega)).trans ((setRow_other _ _ _ _ (by omega)).trans ((heap_alloc_old _ _ (by simp; omega)).trans (heap_alloc_old _ _ hl)))
/-- An empty slice that was made. -/
theorem own_made (w : World) (base : Nat) (hb : base ≤ w.heap.size) : (w.alloc (.cells #[] 9)).ownsRow base 9 1 (.slice (some ⟨w.heap.size, 0, none⟩) 0 0) 0 [] :=
  ⟨rfl, .inr ⟨w.heap.size, 0, #[], rfl, hb, heap_alloc_last _ _, Nat.le_refl _, by unfold maxLen; omega, rfl, rfl⟩⟩
/-- append of names, or of none, onto a row of the call's own. -/
theorem append_names {ops : Array Oper} {rest : List Oper} {o : Oper} {a : Act} {w : World} {Q : Exit → Act → World → Prop} (hgd : o.guard = none) (s x : Operand)
    (ho : o.op = .call { callee := .builtin .append, args := #[s, x], argTypes := #[28, 28] })
    (base : Nat) (i : TypeInfo) (hi : Try.prog.info? 9 = some i) (hz : i.zero = some (.string ⟨#[]⟩)) (hsize : i.size = 1) (hby : i.bytes = 16)
    (v : Value) (k : Nat) (xs : List Value) (hs : a.eval s = v) (hown : w.ownsRow base 9 1 v k xs)
    (va : Option Addr) (m c : Nat) (S : Nat → ByteArray) (hx : a.eval x = .slice va m c) (hc : m = 0 ∨ ∃ g o, va = some ⟨g, o, none⟩ ∧ ∀ j, j < m → w.cell? ⟨g, o + j, none⟩ = some (.string (S j)))
    (hk : k ≤ 100) (hm : m ≤ 100) (hbase : base ≤ w.heap.size)
    (h : ∀ v' w', w'.ownsRow base 9 1 v' (k + m) (xs ++ nmL S m) → Below base w w' → wpList Try.prog ops Q rest (a.put o.dst v') w') :
    wpList Try.prog ops Q (o :: rest) a w := by
  rcases Nat.eq_zero_or_pos m with rfl | hmp
  · refine wpList_plain hgd fun K hK => ?_
    have hl : ∃ b sl sc, v = .slice b sl sc ∧ sl ≤ sc := by
      rcases hown.2 with ⟨rfl, _⟩ | ⟨g, cap, cur, rfl, h1, h2, h3, _⟩
      · exact ⟨_, _, _, rfl, Nat.le_refl _⟩
      · exact ⟨_, _, _, rfl, h3⟩
    obtain ⟨b, sl, sc, rfl, hle⟩ := hl
    have hr := run_append_nothing (P := Try.prog) w 28 28 o.type 9 i Try.underlying28 hi b sl sc hle (.slice va 0 c) (by cases va with
      | none => exact Src.ofNil w Try.underlying28 c
      | some ad => exact Src.ofSlice w Try.underlying28 ad 0 c [] (by simp) (fun j u hu => by simp at hu) (fun u hu => by cases hu))
    unfold Oper.wp execOp
    simp only [ho, resolve, invoke, builtin, Sem.run_bind, Sem.run_pure, Result.andThen_ok, List.map_toArray, List.map_cons, List.map_nil, hs, hx, hr]
    refine hK _ _ (h _ _ ?_ (Below.refl _ _))
    have : nmL S 0 = [] := rfl
    rw [this, List.append_nil]
    exact hown
  · rcases hc with h0 | ⟨g, o', rfl, hc⟩
    · omega
    refine wpList_append_own w hgd s x 28 ho base 9 i (.string ⟨#[]⟩) 1 16 Try.underlying28 hi hz hsize hby rfl (by decide) v k xs hs hown ⟨g, o', none⟩ m c (nmL S m) hx (by simp [nmL]) ?_ ?_ (by unfold maxLen; omega) (by omega) hbase ?_
    · intro j u hu
      have hj : j < m := by
        have := (List.getElem?_eq_some_iff.1 hu).1
        rwa [nmL_len] at this
      have e : (⟨g, o', none⟩ : Addr).add j = ⟨g, o' + j, none⟩ := by unfold Addr.add; split <;> simp_all
      rw [e, hc j hj, ← nmL_at S m j hj, hu]
    · intro u hu
      unfold nmL at hu
      simp only [List.mem_map] at hu
      obtain ⟨j, _, rfl⟩ := hu
      rfl
    · intro v' w' ho' hg' hn'
      exact h v' w' ho' ((Below.refl base w).grown hg' hbase (fun q hq => (hown.lt q hq).1))
theorem names_kept {v : Option Addr} {n : Nat} {S : Nat → ByteArray} {w w' : World} (h : NamesAt v n S w.heap.size w) (hg : Grew w.heap.size w w') : NamesAt v n S w'.heap.size w' := by
  rcases h.grew hg with h | ⟨g, o, hv, hl, hc⟩
  · exact .inl h
  · exact .inr ⟨g, o, hv, Nat.lt_of_lt_of_le hl hg.2, hc⟩
theorem names_cells {v : Option Addr} {n : Nat} {S : Nat → ByteArray} {b : Nat} {w : World} (h : NamesAt v n S b w) : n = 0 ∨ ∃ g o, v = some ⟨g, o, none⟩ ∧ ∀ j, j < n → w.cell? ⟨g, o + j, none⟩ = some (.string (S j)) := by
  rcases h with h | ⟨g, o, hv, hl, hc⟩
  · exact .inl h
  · exact .inr ⟨g, o, hv, hc⟩
theorem row_names {w : World} {base g n k c : Nat} {S : Nat → ByteArray} {xs : List Value} (h : w.ownsRow base 9 1 (.slice (some ⟨g, 0, none⟩) k c) k xs) (hg : g < w.heap.size) (hx : ∀ j, j < n → xs[j]? = some (.string (S j))) (hn : n ≤ k) : NamesAt (some ⟨g, 0, none⟩) n S w.heap.size w :=
  .inr ⟨g, 0, rfl, hg, fun j hj => by rw [Nat.zero_add, h.cellAt j (by omega)]; exact hx j hj⟩
theorem past2 {w : World} {g : Nat} {o : Obj} (h : w.heap[g]? = some o) (a b c d : Array Value) (S T : TypeId) : ((((w.alloc (.cells a S)).alloc (.cells b T)).setRow w.heap.size c).setRow (w.heap.size + 1) d).heap[g]? = some o := by
  have hl := lt_of_heap h
  exact (setRow_other _ _ _ _ (by omega)).trans ((setRow_other _ _ _ _ (by omega)).trans (heap_past (heap_past h)))
theorem own_made2 (w : World) (o : Obj) : ((w.alloc o).alloc (.cells #[] 9)).ownsRow (w.heap.size + 1) 9 1 (.slice (some ⟨w.heap.size + 1, 0, none⟩) 0 0) 0 [] := by
  have e : (w.alloc o).heap.size = w.heap.size + 1 := by simp
  rw [← e]
  exact own_made _ _ (Nat.le_refl _)
theorem size_alloc_le2 (w : World) (o o' : Obj) : w.heap.size + 1 ≤ ((w.alloc o).alloc o').heap.size := by simp
theorem lt15 {w5 w6 : World} {o : Obj} (h : Below (w5.alloc o).heap.size (w5.alloc o) w6) : w5.heap.size < w6.heap.size := by have := h.size; simp at this; omega
theorem grew_two {B : Nat} {w w1 : World} (h : Grew B w w1) (a b c d : Array Value) (S T : TypeId) : Grew B w ((((w1.alloc (.cells a S)).alloc (.cells b T)).setRow w1.heap.size c).setRow (w1.heap.size + 1) d) :=
  (((h.alloc _).alloc _).setRow h.2 _).setRow (Nat.le_succ_of_le h.2) _
theorem own_lt {w : World} {base e size n g k c : Nat} {xs : List Value} (h : w.ownsRow base e size (.slice (some ⟨g, 0, none⟩) k c) n xs) : g < w.heap.size := (h.lt g rfl).2
theorem size_alloc_le (w : World) (o : Obj) : w.heap.size ≤ (w.alloc o).heap.size := by simp
set_option maxHeartbeats 4000000 in
theorem tells_walk (nm : ByteArray) (v : Option Addr) (n c : Nat) (S : Nat → ByteArray) (t : Int) (w : World) (hnc : n ≤ c) (hcm : c ≤ maxLen) (hnm : NamesAt v n S w.heap.size w) :
    Calls Try.prog 11 #[.string nm, .slice v n c, .int .i64 t] w fun e w' => e = .returned (.bool true) ∧ Below w.heap.size w w' := by
  by_cases hn : 100 < n
  · have hn' : (100 : Int) < (n : Int) := by omega
    clear hnm hnc hcm
    go_enter Try.func11, Try.ntmps11
    go_wp2
    go_ret
    exact ⟨rfl, Below.refl _ _⟩
  have hn100 : n ≤ 100 := by omega
  obtain ⟨i0, hi0, hz0, hz1, hz2⟩ := info_parts info9
  obtain ⟨re, im, ra, rb, e1, fre, fim, hN1, hN2⟩ := node_alike t
  obtain ⟨f1, e2, ⟨f1v, ff1, _⟩, hF1, hF2⟩ := factor_alike nm t
  obtain ⟨X, Y, e3, hT1, hT2⟩ := turn_alike12 nm t
  obtain ⟨f2, f2v, X2, Y2, p, q, ff2, hS1, hS2⟩ := times_alike12 n S t (by omega)
  have N1 := hide_ hN1
  have N2 := hide_ hN2
  have F1 := hide_ hF1
  have F2 := hide_ hF2
  have T1 := hide_ hT1
  have T2 := hide_ hT2
  have S1 := hide_ hS1
  have S2 := hide_ hS2
  have HNM := hide_ hnm
  have K1 := hide_ (fun wx => sameN fre fim wx)
  have K2 := hide_ (fun wx => sameF ff1 wx)
  have K3 := hide_ (fun wx => sameF ff2 wx)
  clear hN1 hN2 hF1 hF2 hT1 hT2 hS1 hS2 hnm fre fim ff1 ff2
  have hle : (n : Int) ≤ 100 := by omega
  have tok1 : True := trivial
  have tok2 : True := trivial
  have tok3 : True := trivial
  have hx1 : ∀ j, j < n → (nmL S n ++ [.string ⟨#[77, 50]⟩, .string ⟨#[98, 101, 104, 105, 110, 100]⟩])[j]? = some (.string (S j)) := fun j hj => by
    rw [List.getElem?_append_left (by rw [nmL_len]; omega)]; exact nmL_at S n j hj
  have hx2 : (nmL S n ++ [.string ⟨#[77, 50]⟩, .string ⟨#[98, 101, 104, 105, 110, 100]⟩])[n]? = some (.string ⟨#[77, 50]⟩) := by
    rw [List.getElem?_append_right (by rw [nmL_len]; omega), nmL_len, Nat.sub_self]; rfl
  have hx3 : (nmL S n ++ [.string ⟨#[77, 50]⟩, .string ⟨#[98, 101, 104, 105, 110, 100]⟩])[n + 1]? = some (.string ⟨#[98, 101, 104, 105, 110, 100]⟩) := by
    rw [List.getElem?_append_right (by rw [nmL_len]; omega), nmL_len, Nat.add_sub_cancel_left]; rfl
  have HX := hide_ (And.intro hx1 (And.intro hx2 hx3))
  have HXS : Hid (∃ xs, xs = nmL S n ++ [.string ⟨#[77, 50]⟩, .string ⟨#[98, 101, 104, 105, 110, 100]⟩]) := hide_ ⟨_, rfl⟩
  clear hx1 hx2 hx3
  go_enter Try.func11, Try.ntmps11
  go_wp2_with (first
    | (go_at_call 66; (with_reducible refine (N1.out _).mono ?_); rintro e w1 ⟨rfl, hb1⟩)
    | (go_at_call 67; (with_reducible refine (N2.out _).mono ?_); rintro e w2 ⟨rfl, hb2⟩)
    | (go_at_call 49; (with_reducible refine (F1.out _).mono ?_); rintro e w3 ⟨rfl, hb3⟩)
    | (go_at_call 68; (with_reducible refine (F2.out _).mono ?_); rintro e w4 ⟨rfl, hb4⟩)
    | (go_at_call 50; (with_reducible refine (T1.out _).mono ?_); rintro e w5 ⟨rfl, hb5⟩; have hg5 := ((((Grew.of hb1).step hb2).step hb3).step hb4).step hb5; have a15 := heap_alloc_last w5 (.cells #[.int .i64 X, .int .i64 Y] 35))
    | (go_at_call 69; (with_reducible refine (T2.out _).mono ?_); rintro e w6 ⟨rfl, hb6⟩; have hg6a := ((hg5.alloc (.cells #[.int .i64 X, .int .i64 Y] 35)).step hb6).2; have hg6 := ((hg5.alloc (.cells #[.int .i64 X, .int .i64 Y] 35)).step hb6).alloc (.cells #[.int .i64 X, .int .i64 Y] 35); have b15 := heap_past (o' := .cells #[.int .i64 X, .int .i64 Y] 35) ((hb6.block _ (lt_of_heap a15)).trans a15); have b17 := heap_alloc_last w6 (.cells #[.int .i64 X, .int .i64 Y] 35); have bl := hg6.alloc (.cells #[] 9); have nms := names_cells (names_kept HNM.out bl); have le6 := size_alloc_le2 w6 (.cells #[.int .i64 X, .int .i64 Y] 35) (.cells #[] 9))
    | (at_builtin; refine append_names rfl _ _ rfl (w6.heap.size + 1) i0 hi0 hz0 hz1 hz2 _ 0 [] rfl (own_made2 w6 _) v n c S rfl nms (by omega) hn100 le6 ?_; intro v7 w7 own7 hb7; rw [Nat.zero_add, List.nil_append] at own7; have c15 := (hb7.block _ (Nat.lt_succ_of_lt (lt15 hb6))).trans (heap_past (o' := .cells #[] 9) b15); have c17 := (hb7.block _ (Nat.lt_succ_self _)).trans (heap_past (o' := .cells #[] 9) b17); have hg7 := bl.more (hb7.mono (Nat.le_succ_of_le hg6a)); have le7 := Nat.le_trans le6 hb7.size)
    | (at_builtin; refine wpList_push rfl _ _ 28 rfl (w6.heap.size + 1) 9 i0 (.string ⟨#[]⟩) 1 16 Try.underlying28 hi0 hz0 hz1 hz2 rfl (by decide) (by decide) _ _ _ rfl own7 #[.string ⟨#[77, 50]⟩, .string ⟨#[98, 101, 104, 105, 110, 100]⟩] _ 2 2 rfl rfl (by kernel_rfl) (by omega) le7 ?_; intro v8 w8 own8 hb8 _ _; have d15 := (hb8.block _ (Nat.lt_succ_of_lt (lt15 hb6))).trans c15; have d17 := (hb8.block _ (Nat.lt_succ_self _)).trans c17; have hg8 := hg7.more (hb8.mono (Nat.le_succ_of_le hg6a)); obtain ⟨g8, c8, rfl, hgb8, hl8⟩ := own8.form (by omega); have nm8 := row_names own8 hl8 HX.out.1 (by omega); obtain ⟨hcc8, hcm8⟩ := own_cap own8)
    | (go_at_call 70; (with_reducible refine (S1.out _ _ _ nm8).mono ?_); rintro e w9 ⟨rfl, hb9⟩; obtain ⟨e21, e22⟩ := two_blocks w9 #[.int .i64 0, .int .i64 0] #[.int .i64 0, .int .i64 0] 35 79; obtain ⟨f0, f21, f22⟩ := rows_set (c := #[.int .i64 X2, .int .i64 Y2]) (d := #[.int .i64 p, .int .i64 q]) e21 e22; have g15 := past2 ((hb9.block _ (lt_of_heap d15)).trans d15) #[.int .i64 0, .int .i64 0] #[.int .i64 0, .int .i64 0] #[.int .i64 X2, .int .i64 Y2] #[.int .i64 p, .int .i64 q] 35 79; have g17 := past2 ((hb9.block _ (lt_of_heap d17)).trans d17) #[.int .i64 0, .int .i64 0] #[.int .i64 0, .int .i64 0] #[.int .i64 X2, .int .i64 Y2] #[.int .i64 p, .int .i64 q] 35 79; have own9 := own_heap (own_below own8 hb9) (fun g1 hg1 => by cases hg1; exact past_eq (Nat.lt_of_lt_of_le hl8 hb9.size) #[.int .i64 0, .int .i64 0] #[.int .i64 0, .int .i64 0] #[.int .i64 X2, .int .i64 Y2] #[.int .i64 p, .int .i64 q] 35 79); have hg9 := grew_two (hg8.step hb9) #[.int .i64 0, .int .i64 0] #[.int .i64 0, .int .i64 0] #[.int .i64 X2, .int .i64 Y2] #[.int .i64 p, .int .i64 q] 35 79)
    | (go_at_call 71; (with_reducible refine (S2.out _ _ _ (names_kept HNM.out hg9)).mono ?_); rintro e w10 ⟨rfl, hb10⟩; obtain ⟨e24, e25⟩ := two_blocks w10 #[.int .i64 0, .int .i64 0] #[.int .i64 0, .int .i64 0] 35 79; obtain ⟨f1, h24, h25⟩ := rows_set (c := #[.int .i64 X2, .int .i64 Y2]) (d := #[.int .i64 p, .int .i64 q]) e24 e25; have h15 := past2 ((hb10.block _ (lt_of_heap g15)).trans g15) #[.int .i64 0, .int .i64 0] #[.int .i64 0, .int .i64 0] #[.int .i64 X2, .int .i64 Y2] #[.int .i64 p, .int .i64 q] 35 79; have h17 := past2 ((hb10.block _ (lt_of_heap g17)).trans g17) #[.int .i64 0, .int .i64 0] #[.int .i64 0, .int .i64 0] #[.int .i64 X2, .int .i64 Y2] #[.int .i64 p, .int .i64 q] 35 79; have h21 := past2 ((hb10.block _ (lt_of_heap f21)).trans f21) #[.int .i64 0, .int .i64 0] #[.int .i64 0, .int .i64 0] #[.int .i64 X2, .int .i64 Y2] #[.int .i64 p, .int .i64 q] 35 79; have h22 := past2 ((hb10.block _ (lt_of_heap f22)).trans f22) #[.int .i64 0, .int .i64 0] #[.int .i64 0, .int .i64 0] #[.int .i64 X2, .int .i64 Y2] #[.int .i64 p, .int .i64 q] 35 79; have own10 := own_heap (own_below own9 hb10) (fun g1 hg1 => by cases hg1; exact past_eq (own_lt (own_below own9 hb10)) #[.int .i64 0, .int .i64 0] #[.int .i64 0, .int .i64 0] #[.int .i64 X2, .int .i64 Y2] #[.int .i64 p, .int .i64 q] 35 79); have hg10 := grew_two (hg9.step hb10) #[.int .i64 0, .int .i64 0] #[.int .i64 0, .int .i64 0] #[.int .i64 X2, .int .i64 Y2] #[.int .i64 p, .int .i64 q] 35 79; obtain ⟨r0, r1⟩ := cells_two h15; obtain ⟨r2, r3⟩ := cells_two h17; obtain ⟨r4, r5⟩ := cells_two h22; obtain ⟨r6, r7⟩ := cells_two h25)
    | (go_at_call 72; (with_reducible refine (K1.out _).mono ?_); rintro e w11 ⟨rfl, rfl⟩)
    | (go_at_call 38; have _t := tok1; (with_reducible refine (K2.out _).mono ?_); rintro e w12 ⟨rfl, rfl⟩; clear tok1)
    | (go_at_call 38; have _t := tok2; (with_reducible refine (K3.out _).mono ?_); rintro e w13 ⟨rfl, rfl⟩; clear tok2)
    | (go_at_call 52; have _t := tok3; (with_reducible refine (same_turn _ _ _).mono ?_); rintro e w14 ⟨rfl, hb14⟩; have own14 := own_below own10 hb14; have hg14 := hg10.step hb14; have k21 := (hb14.block _ (lt_of_heap h21)).trans h21; have k24 := (hb14.block _ (lt_of_heap h24)).trans h24; obtain ⟨r8, r9⟩ := cells_two k21; obtain ⟨s0, s1⟩ := cells_two k24; clear tok3)
    | (go_at_call 52; (with_reducible refine (same_turn _ _ _).mono ?_); rintro e w15 ⟨rfl, hb15⟩; have own15 := own_below own14 hb15; have hg15 := hg14.step hb15)
    | ((with_reducible apply wpList_store_blk); (with_reducible rfl); (with_reducible rfl); rfl; assumption; rfl; kernel_rfl; rfl; kernel_rfl)
    | ((with_reducible apply wpList_store_new); (with_reducible rfl); (with_reducible rfl); rfl; rfl; kernel_rfl; rfl; kernel_rfl))
  have nm15 := names_cells (names_kept HNM.out hg15)
  have hxs := HX.out
  have ce : ∀ j, j < n → w15.cell? ⟨g8, j, none⟩ = some (.string (S j)) := fun j hj => (own15.cellAt j (by omega)).trans (hxs.1 j hj)
  have ce1 : w15.cell? ⟨g8, n, none⟩ = some (.string ⟨#[77, 50]⟩) := (own15.cellAt n (by omega)).trans hxs.2.1
  have ce2 : w15.cell? ⟨g8, n + 1, none⟩ = some (.string ⟨#[98, 101, 104, 105, 110, 100]⟩) := (own15.cellAt (n + 1) (by omega)).trans hxs.2.2
  clear hxs HX HXS own15 own14 own10 own9 own8 own7
  clear N1 N2 F1 F2 T1 T2 S1 S2 K1 K2 K3 HNM hb1 hb2 hb3 hb4 hb5 hb6 hb7 hb8 hb9 hb10 hb14 hb15 hg5 hg6 hg6a hg7 hg8 hg9 hg10 hg14 a15 b15 b17 bl nms le6 le7 c15 c17 d15 d17 nm8 e21 e22 f0 f21 f22 g15 g17 e24 e25 f1 h24 h25 h15 h17 h21 h22 r0 r1 r2 r3 r4 r5 r6 r7 r8 r9 s0 s1 k21 k24
  go_loopw [26] (fun i wq => ∃ (k m : Nat), k ≤ n ∧ i = .int .i64 k ∧ wq = w15.drewN m) (fun i _ => n - (intOf i).toNat)
  case atStart => exact ⟨0, 0, by omega, rfl, rfl⟩
  case round =>
    obtain ⟨k, m, hk, rfl, rfl⟩ := hrel
    by_cases hlt : k < n
    · rcases nm15 with h0 | ⟨g, o, rfl, hc⟩
      · omega
      have c0 := ce k hlt
      have c1 := hc k hlt
      clear ce ce1 ce2 hc
      go_wp2
      go_quiet (fail)
      go_wp2
      go_roundw
      case rel => exact ⟨k + 1, m + nq, by omega, by go_num, rfl⟩
      case measure => simp [intOf]; omega
    · obtain rfl : k = n := by omega
      clear ce nm15
      go_wp2
      go_ret
      exact ⟨rfl, (hg15.drewN _).below⟩
end Go.Proofs.Ytklhdpkofpkmjaa
