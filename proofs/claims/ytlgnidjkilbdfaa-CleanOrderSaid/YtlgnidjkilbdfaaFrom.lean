/- Chapter 19: From, in the program and in the reference. -/
import Derived.Test.YtlgnidjkilbdfaaRef3
namespace Go.Proofs.Ytlgnidjkilbdfaa
open Go.RowKit Go.Maps
set_option linter.unusedVariables false
set_option maxRecDepth 100000
theorem ret_tc {P : Program} {fn : Func} {R : Ending → World → Prop} {a : Act} {w : World} {p t : Tmp} {ty : TypeId} (h : fn.results = #[.tmp t, .cell p ty]) (g : Nat) (T : TypeId) (cs : Array Value) (d : TypeDesc)
    (hp : a.tmps.getD p undef = .pointer (some ⟨g, 0, none⟩)) (hg : w.heap[g]? = some (.cells cs T (0, 0))) (hu : P.underlying ty = some d) (hd : (match d with | .struct _ | .array _ _ => true | _ => false) = true)
    (hi : (P.info? ty).map (·.size) = some cs.size) (hdf : a.defers = []) (hR : R (.returned (.tuple #[a.tmps.getD t undef, .agg cs])) w) : bodyPost P fn R .ret a w := by
  refine bodyPost_ret (v := .tuple #[a.tmps.getD t undef, .agg cs]) ?_ hdf hR
  have hp' : a.tmps[p]?.getD undef = .pointer (some ⟨g, 0, none⟩) := by simpa using hp
  simp [results, h, hp', asAddr, run_loadVar_row w g T ty cs (0, 0) d hg hu hd hi]
theorem setRow_heap {w : World} {g : Nat} {cs old : Array Value} {T : TypeId} (h : w.heap[g]? = some (.cells old T (0, 0))) : (w.setRow g cs).heap[g]? = some (.cells cs T (0, 0)) := by
  simp [World.setRow, Array.getElem?_modify, h]
theorem setRow_other {w : World} {g k : Nat} {cs : Array Value} (h : g ≠ k) : (w.setRow g cs).heap[k]? = w.heap[k]? := by
  simp [World.setRow, Array.getElem?_modify, h]
/-- What a list of samples comes to, the first k of them. -/
def recsTo (S : Rc) (k : Nat) : Rc := (S.take k).foldl (fun L p => addR L p.1 p.2) []
def errAt (S : Rc) (k : Nat) : Int := addE (recsTo S k) (S.getD k (0, 0)).1
/-- The first place at which a sample is refused. -/
def fromR (S : Rc) : Option Nat := (List.range S.length).find? (fun k => errAt S k != 0)
structure In64 (S : Rc) : Prop where
  i : ∀ p ∈ S, I64 p.1
  w : ∀ p ∈ S, p.2 < 2 ^ 64
theorem Ok.add {L : Rc} {t : Int} {b : Nat} (h : Ok L) (hb : b < 2 ^ 64) : Ok (addR L t b) := by
  unfold addR
  split
  · rename_i he; exact h.ins he hb
  · exact h
theorem recs_zero (S : Rc) : recsTo S 0 = [] := rfl
theorem recs_succ {S : Rc} {k : Nat} (h : k < S.length) : recsTo S (k + 1) = addR (recsTo S k) (S.getD k (0, 0)).1 (S.getD k (0, 0)).2 := by
  unfold recsTo
  rw [take_snoc S k h, List.foldl_append]
  rfl
theorem from_none {S : Rc} (h : ∀ j, j < S.length → errAt S j = 0) : fromR S = none := by
  unfold fromR
  rw [List.find?_eq_none]
  intro k hk
  rw [h k (by simpa using hk)]
  decide
theorem from_some {S : Rc} {k : Nat} (hk : k < S.length) (h : ∀ j, j < k → errAt S j = 0) (he : errAt S k ≠ 0) : fromR S = some k := by
  unfold fromR
  rw [List.find?_range_eq_some]
  exact ⟨by simpa using he, by simpa using hk, fun j hj => by simpa using h j hj⟩
/-- A slice of samples in memory, as a list. -/
def SL (w : World) (base : Nat) (v : Value) (S : Rc) : Prop := w.ownsRow base 26 2 v S.length (flat S)
theorem SL.below {w w' : World} {base : Nat} {v : Value} {S : Rc} (h : SL w base v S) (hb : Below w.heap.size w w') : SL w' base v S := own_below h hb
theorem SL.slice {w : World} {base : Nat} {v : Value} {S : Rc} (h : SL w base v S) : ∃ p c, v = .slice p S.length c := row_slice h
theorem SL.cells {w : World} {base c : Nat} {p : Option Addr} {S : Rc} (h : SL w base (.slice p S.length c) S) {k : Nat} (hk : k < S.length) :
    ∃ g, p = some ⟨g, 0, none⟩ ∧ g < w.heap.size ∧ w.cell? ⟨g, k * 2, none⟩ = some (.int .i64 (S.getD k (0, 0)).1) ∧ w.cell? ⟨g, k * 2 + 1, none⟩ = some (.float .f64 (S.getD k (0, 0)).2) := by
  obtain ⟨g, rfl, _, hl, hc⟩ := row_cells h (by omega)
  exact ⟨g, rfl, hl, hc _ _ (flat_at S k hk).1, hc _ _ (flat_at S k hk).2⟩
theorem Grew.grown {B : Nat} {w w1 w2 : World} {mb : Nat} (h : Grew B w w1) (hg : w1.grownBy w2 (some mb)) (hm : B ≤ mb) : Grew B w w2 :=
  ⟨h.1.grown hg h.2 (fun k hk => by cases hk; exact hm), Nat.le_trans h.2 hg.size⟩
set_option maxHeartbeats 3200000 in
theorem from_rec {w : World} {base : Nat} {v : Value} {S : Rc} (h : SL w base v S) (h64 : In64 S) (hn : S.length ≤ 5000) : Calls Try.prog 17 #[v] w fun e w' =>
    ((∃ k, fromR S = some k ∧ e = .returned (.tuple #[.pointer none, .agg #[.int .i64 (errAt S k), .int .i64 k]])) ∨
     (fromR S = none ∧ ∃ rb mb, e = .returned (.tuple #[.pointer (some ⟨rb, 0, none⟩), .agg #[.int .i64 0, .int .i64 0]]) ∧ Rec w' rb mb (recsTo S S.length) ∧ w.heap.size ≤ rb ∧ w.heap.size ≤ mb)) ∧ Below w.heap.size w w' := by
  obtain ⟨p, c, rfl⟩ := h.slice
  have H := hide_ h
  have H64 := hide_ h64
  have HNW := hide_ (fun wx => new_any wx)
  have hf0 := heap_alloc_last w (.cells #[.int .i64 0, .int .i64 0] 34)
  clear h h64
  go_enter Try.func17, Try.ntmps17
  go_wp2_with (go_at_call 27; (with_reducible refine (HNW.out _).mono ?_); rintro e w1 ⟨rfl, rfl⟩)
  have hg0 := (((Grew.refl w).alloc (.cells #[.int .i64 0, .int .i64 0] 34)).alloc (.map #[] 0)).alloc (.cells #[.map (some (w.heap.size + 1))] 65)
  have hr0 := new_rec (w.alloc (.cells #[.int .i64 0, .int .i64 0] 34))
  rw [show (w.alloc (.cells #[.int .i64 0, .int .i64 0] 34)).heap.size = w.heap.size + 1 by simp] at hr0
  have hf2 : (((w.alloc (.cells #[.int .i64 0, .int .i64 0] 34)).alloc (.map #[] 0)).alloc (.cells #[.map (some (w.heap.size + 1))] 65)).heap[w.heap.size]? = some (.cells #[.int .i64 0, .int .i64 0] 34) := heap_past (heap_past hf0)
  clear hf0
  go_loopw [11] (fun i wr => ∃ k : Nat, k ≤ S.length ∧ i = .int .i64 k ∧ Rec wr (w.heap.size + 1 + 1) (w.heap.size + 1) (recsTo S k) ∧ wr.heap[w.heap.size]? = some (.cells #[.int .i64 0, .int .i64 0] 34) ∧ Hid (∀ j, j < k → errAt S j = 0) ∧ Grew w.heap.size w wr)
    (fun i _ => S.length - (intOf i).toNat)
  case atStart => exact ⟨0, by omega, rfl, hr0, hf2, hide_ (fun j hj => by omega), hg0⟩
  case round =>
    clear hr0 hf2 hg0
    obtain ⟨k, hk, rfl, hrec, hfb, hal, hgr⟩ := hrel
    by_cases hlt : k < S.length
    · obtain ⟨g, rfl, hl, hc0, hc1⟩ := (H.out.below hgr.1).cells hlt
      have hmem := mem_getD hlt
      have ht := H64.out.i _ hmem
      have hw := H64.out.w _ hmem
      have hsu := recs_succ hlt
      have hee : errAt S k = addE (recsTo S k) (S.getD k (0, 0)).1 := rfl
      generalize (S.getD k (0, 0)).1 = t at *
      generalize (S.getD k (0, 0)).2 = b at *
      have hrecA := hrec.below (below_alloc wr (.cells #[.int .i64 t, .float .f64 b] 26))
      have hgrA := hgr.alloc (.cells #[.int .i64 t, .float .f64 b] 26)
      have hfA := heap_past (o' := .cells #[.int .i64 t, .float .f64 b] 26) hfb
      have HA := hide_ (add_rec hrecA ht hw)
      have HS := hide_ hsu
      have HE := hide_ hee
      clear hsu hee hmem ht hw hrec hgr hfb
      by_cases he : errAt S k = 0
      · rw [← HE.out, he] at HA
        have HE0 := hide_ he
        clear he
        go_wp2_with (go_at_call 28; (with_reducible refine (HA.out).mono ?_); rintro e w2 ⟨rfl, hrec2, hg2⟩)
        go_roundw
        case rel =>
          refine ⟨k + 1, by omega, by go_num, by rw [HS.out]; exact hrec2, ?_, hide_ ?_, hgrA.grown hg2 (by omega)⟩
          · rw [hg2.block _ (lt_of_heap hfA) (by simp)]
            exact hfA
          · intro j hj
            rcases (show j < k ∨ j = k by omega) with h' | rfl
            · exact hal.out j h'
            · exact HE0.out
        case measure => simp [intOf]; omega
      · rw [← HE.out] at HA
        have hne : (errAt S k != 0) = true := by simpa using he
        have HNE := hide_ he
        obtain ⟨ev, hev⟩ : ∃ ev, ev = errAt S k := ⟨_, rfl⟩
        rw [← hev] at HA hne
        have HV := hide_ hev
        clear he hev
        go_wp2_with (first
          | (go_at_call 28; (with_reducible refine (HA.out).mono ?_); rintro e w2 ⟨rfl, hrec2, hg2⟩; have hf2 := (hg2.block _ (lt_of_heap hfA) (by simp)).trans hfA; have hgr2 := hgrA.grown hg2 (by omega); clear hg2 hrec2)
          | ((with_reducible apply wpList_store_blk); (with_reducible rfl); (with_reducible rfl); rfl; assumption; rfl; kernel_rfl; rfl; kernel_rfl))
        refine ret_tc rfl _ 34 _ _ rfl (setRow_heap hf2) Try.underlying34 rfl (by kernel_rfl) rfl ?_
        refine ⟨.inl ⟨k, from_some hlt hal.out HNE.out, ?_⟩, (hgr2.setRow (Nat.le_refl _) _).below⟩
        rw [← HV.out]
        rfl
    · obtain rfl : k = S.length := by omega
      have hge : ¬ S.length < S.length := by omega
      go_wp2_with (first | ((with_reducible apply wpList_store_blk); (with_reducible rfl); (with_reducible rfl); rfl; assumption; rfl; kernel_rfl; rfl; kernel_rfl))
      refine ret_tc rfl _ 34 _ _ rfl (setRow_heap hfb) Try.underlying34 rfl (by kernel_rfl) rfl ?_
      refine ⟨.inr ⟨from_none hal.out, w.heap.size + 1 + 1, w.heap.size + 1, rfl, ?_, by omega, by omega⟩, (hgr.setRow (Nat.le_refl _) _).below⟩
      exact hrec.kept (row := some w.heap.size) ⟨rfl, rfl, rfl, by simp [World.setRow], fun k hk hne => setRow_other (fun e => hne (by rw [e]))⟩ (by simp; omega) (by simp)
set_option maxHeartbeats 3200000 in
theorem rfrom_rec {w : World} {base : Nat} {v : Value} {S : Rc} (h : SL w base v S) (h64 : In64 S) (hn : S.length ≤ 5000) : Calls Try.prog 18 #[v] w fun e w' =>
    ((∃ k, fromR S = some k ∧ e = .returned (.tuple #[.pointer none, .agg #[.int .i64 (errAt S k), .int .i64 k]])) ∨
     (fromR S = none ∧ ∃ qb v', e = .returned (.tuple #[.pointer (some ⟨qb, 0, none⟩), .agg #[.int .i64 0, .int .i64 0]]) ∧ RRec w' qb v' (recsTo S S.length) ∧ w.heap.size ≤ qb)) ∧ Below w.heap.size w w' := by
  obtain ⟨p, c, rfl⟩ := h.slice
  have H := hide_ h
  have H64 := hide_ h64
  have HNW := hide_ (fun wx => rnew_any wx)
  have hf0 := heap_alloc_last w (.cells #[.int .i64 0, .int .i64 0] 34)
  clear h h64
  go_enter Try.func18, Try.ntmps18
  go_wp2_with (go_at_call 31; (with_reducible refine (HNW.out _).mono ?_); rintro e w1 ⟨rfl, rfl⟩)
  have hg0 := ((Grew.refl w).alloc (.cells #[.int .i64 0, .int .i64 0] 34)).alloc (.cells #[.bool true, .slice none 0 0] 105)
  have hr0 := rnew_rec (w.alloc (.cells #[.int .i64 0, .int .i64 0] 34))
  rw [show (w.alloc (.cells #[.int .i64 0, .int .i64 0] 34)).heap.size = w.heap.size + 1 by simp] at hr0
  have hf2 := heap_past (o' := .cells #[.bool true, .slice none 0 0] 105) hf0
  clear hf0
  go_loopw [5] (fun i wr => ∃ k : Nat, k ≤ S.length ∧ i = .int .i64 k ∧ (∃ v', RRec wr (w.heap.size + 1) v' (recsTo S k)) ∧ wr.heap[w.heap.size]? = some (.cells #[.int .i64 0, .int .i64 0] 34) ∧ Hid (∀ j, j < k → errAt S j = 0) ∧ Grew w.heap.size w wr)
    (fun i _ => S.length - (intOf i).toNat)
  case atStart => exact ⟨0, by omega, rfl, ⟨_, hr0⟩, hf2, hide_ (fun j hj => by omega), hg0⟩
  case round =>
    clear hr0 hf2 hg0
    obtain ⟨k, hk, rfl, ⟨v', hrec⟩, hfb, hal, hgr⟩ := hrel
    by_cases hlt : k < S.length
    · obtain ⟨g, rfl, hl, hc0, hc1⟩ := (H.out.below hgr.1).cells hlt
      have hmem := mem_getD hlt
      have ht := H64.out.i _ hmem
      have hw := H64.out.w _ hmem
      have hsu := recs_succ hlt
      have hee : errAt S k = addE (recsTo S k) (S.getD k (0, 0)).1 := rfl
      generalize (S.getD k (0, 0)).1 = t at *
      generalize (S.getD k (0, 0)).2 = b at *
      have HA := hide_ (radd_rec (t := t) hrec hw)
      have HS := hide_ hsu
      have HE := hide_ hee
      clear hsu hee hmem ht hw hrec
      by_cases he : errAt S k = 0
      · rw [← HE.out, he] at HA
        have HE0 := hide_ he
        clear he
        go_wp2_with (go_at_call 67; (with_reducible refine (HA.out).mono ?_); rintro e w2 ⟨rfl, hrec2, hg2⟩)
        go_roundw
        case rel =>
          refine ⟨k + 1, by omega, by go_num, by rw [HS.out]; exact hrec2, ?_, hide_ ?_, hgr.grown hg2 (by omega)⟩
          · rw [hg2.block _ (lt_of_heap hfb) (by simp)]
            exact hfb
          · intro j hj
            rcases (show j < k ∨ j = k by omega) with h' | rfl
            · exact hal.out j h'
            · exact HE0.out
        case measure => simp [intOf]; omega
      · rw [← HE.out] at HA
        have hne : (errAt S k != 0) = true := by simpa using he
        have HNE := hide_ he
        obtain ⟨ev, hev⟩ : ∃ ev, ev = errAt S k := ⟨_, rfl⟩
        rw [← hev] at HA hne
        have HV := hide_ hev
        clear he hev
        go_wp2_with (first
          | (go_at_call 67; (with_reducible refine (HA.out).mono ?_); rintro e w2 ⟨rfl, hrec2, hg2⟩; have hf2 := (hg2.block _ (lt_of_heap hfb) (by simp)).trans hfb; have hgr2 := hgr.grown hg2 (by omega); clear hg2 hrec2)
          | ((with_reducible apply wpList_store_blk); (with_reducible rfl); (with_reducible rfl); rfl; assumption; rfl; kernel_rfl; rfl; kernel_rfl))
        refine ret_tc rfl _ 34 _ _ rfl (setRow_heap hf2) Try.underlying34 rfl (by kernel_rfl) rfl ?_
        refine ⟨.inl ⟨k, from_some hlt hal.out HNE.out, ?_⟩, (hgr2.setRow (Nat.le_refl _) _).below⟩
        rw [← HV.out]
        rfl
    · obtain rfl : k = S.length := by omega
      have hge : ¬ S.length < S.length := by omega
      have hl1 : w.heap.size + 1 ≤ wr.heap.size := by have := lt_of_heap hrec.box; omega
      go_wp2_with (first | ((with_reducible apply wpList_store_blk); (with_reducible rfl); (with_reducible rfl); rfl; assumption; rfl; kernel_rfl; rfl; kernel_rfl))
      refine ret_tc rfl _ 34 _ _ rfl (setRow_heap hfb) Try.underlying34 rfl (by kernel_rfl) rfl ?_
      refine ⟨.inr ⟨from_none hal.out, w.heap.size + 1, v', rfl, ?_, by omega⟩, (hgr.setRow (Nat.le_refl _) _).below⟩
      exact hrec.kept (row := some w.heap.size) ⟨rfl, rfl, rfl, by simp [World.setRow], fun k hk hne => setRow_other (fun e => hne (by rw [e]))⟩ (by simp) (.inr (row_type hrec.own hfb (by decide)))
end Go.Proofs.Ytlgnidjkilbdfaa
