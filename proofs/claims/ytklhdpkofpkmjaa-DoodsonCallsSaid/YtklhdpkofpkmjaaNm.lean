/- Chapter 11: Name: what has given numbers, over the table in any order, and over the reference's rows. -/
import Derived.Test.YtklhdpkofpkmjaaGrp
import Derived.ChangeKeysEq
import Derived.Maps.RangeWalk
namespace Go.Proofs.Ytklhdpkofpkmjaa
open Go.RowKit
set_option linter.unusedSimpArgs false
set_option linter.unusedVariables false
theorem info52 : (Try.prog.info? 52).map (fun i => (i.zero, i.size, i.bytes)) = some (some (.int .i8 0), 1, 1) := by kernel_rfl
def eq6 (f g : Nat → Int) : Bool := f 0 == g 0 && f 1 == g 1 && f 2 == g 2 && f 3 == g 3 && f 4 == g 4 && f 5 == g 5
theorem part52 (f : Nat → Int) (k : Nat) (hk : k < 6) (w : World) : (Go.part 52 #[.int .i8 (f 0), .int .i8 (f 1), .int .i8 (f 2), .int .i8 (f 3), .int .i8 (f 4), .int .i8 (f 5)] (k * 1)).run Try.prog w = .ok (.int .i8 (f k)) w := by
  revert k
  exact six_cases (P := fun k => (Go.part 52 #[.int .i8 (f 0), .int .i8 (f 1), .int .i8 (f 2), .int .i8 (f 3), .int .i8 (f 4), .int .i8 (f 5)] (k * 1)).run Try.prog w = .ok (.int .i8 (f k)) w) (by kernel_rfl) (by kernel_rfl) (by kernel_rfl) (by kernel_rfl) (by kernel_rfl) (by kernel_rfl)
theorem run_eq6 (f g : Nat → Int) (w : World) : (Op.equalIn 10000 54 (.agg #[.int .i8 (f 0), .int .i8 (f 1), .int .i8 (f 2), .int .i8 (f 3), .int .i8 (f 4), .int .i8 (f 5)]) (.agg #[.int .i8 (g 0), .int .i8 (g 1), .int .i8 (g 2), .int .i8 (g 3), .int .i8 (g 4), .int .i8 (g 5)])).run Try.prog w = .ok (eq6 f g) w := by
  obtain ⟨i0, hi0, hz0, hz1, hz2⟩ := info_parts info52
  rw [show (10000 : Nat) = 9999 + 1 from rfl, run_equalIn_array w 9999 _ _ Try.underlying54 hi0]
  have hc : Try.prog.cellsOf 52 = 1 := by kernel_rfl
  have p := fun k hk => part52 f k hk w
  have q := fun k hk => part52 g k hk w
  have hr : List.range 6 = [0, 1, 2, 3, 4, 5] := rfl
  have he : ∀ a b : Int, (Op.equalIn 9999 52 (.int .i8 a) (.int .i8 b)).run Try.prog w = .ok (a == b) w := fun a b => run_equalIn_int w 9998 52 .i8 .i8 a b Try.underlying52
  rw [hc, hr]
  unfold eq6
  cases e0 : (f 0 == g 0)
  · simp [Op.eqItems, Sem.run_bind, p 0 (by omega), p 1 (by omega), p 2 (by omega), p 3 (by omega), p 4 (by omega), p 5 (by omega), q 0 (by omega), q 1 (by omega), q 2 (by omega), q 3 (by omega), q 4 (by omega), q 5 (by omega), he, e0]
  cases e1 : (f 1 == g 1)
  · simp [Op.eqItems, Sem.run_bind, p 0 (by omega), p 1 (by omega), p 2 (by omega), p 3 (by omega), p 4 (by omega), p 5 (by omega), q 0 (by omega), q 1 (by omega), q 2 (by omega), q 3 (by omega), q 4 (by omega), q 5 (by omega), he, e0, e1]
  cases e2 : (f 2 == g 2)
  · simp [Op.eqItems, Sem.run_bind, p 0 (by omega), p 1 (by omega), p 2 (by omega), p 3 (by omega), p 4 (by omega), p 5 (by omega), q 0 (by omega), q 1 (by omega), q 2 (by omega), q 3 (by omega), q 4 (by omega), q 5 (by omega), he, e0, e1, e2]
  cases e3 : (f 3 == g 3)
  · simp [Op.eqItems, Sem.run_bind, p 0 (by omega), p 1 (by omega), p 2 (by omega), p 3 (by omega), p 4 (by omega), p 5 (by omega), q 0 (by omega), q 1 (by omega), q 2 (by omega), q 3 (by omega), q 4 (by omega), q 5 (by omega), he, e0, e1, e2, e3]
  cases e4 : (f 4 == g 4)
  · simp [Op.eqItems, Sem.run_bind, p 0 (by omega), p 1 (by omega), p 2 (by omega), p 3 (by omega), p 4 (by omega), p 5 (by omega), q 0 (by omega), q 1 (by omega), q 2 (by omega), q 3 (by omega), q 4 (by omega), q 5 (by omega), he, e0, e1, e2, e3, e4]
  cases e5 : (f 5 == g 5)
  · simp [Op.eqItems, Sem.run_bind, p 0 (by omega), p 1 (by omega), p 2 (by omega), p 3 (by omega), p 4 (by omega), p 5 (by omega), q 0 (by omega), q 1 (by omega), q 2 (by omega), q 3 (by omega), q 4 (by omega), q 5 (by omega), he, e0, e1, e2, e3, e4, e5]
  · simp [Op.eqItems, Sem.run_bind, p 0 (by omega), p 1 (by omega), p 2 (by omega), p 3 (by omega), p 4 (by omega), p 5 (by omega), q 0 (by omega), q 1 (by omega), q 2 (by omega), q 3 (by omega), q 4 (by omega), q 5 (by omega), he, e0, e1, e2, e3, e4, e5]
theorem eq6_iff (f g : Nat → Int) : eq6 f g = true ↔ (#[.int .i8 (f 0), .int .i8 (f 1), .int .i8 (f 2), .int .i8 (f 3), .int .i8 (f 4), .int .i8 (f 5)] : Array Value) = #[.int .i8 (g 0), .int .i8 (g 1), .int .i8 (g 2), .int .i8 (g 3), .int .i8 (g 4), .int .i8 (g 5)] := by
  simp [eq6, and_assoc]
def NoneLeft (es : Array MapEntry) (seen : Array Nat) : Prop := (leftOf es seen).size = 0
def IsLeft (e : MapEntry) (es : Array MapEntry) (seen : Array Nat) : Prop := e ∈ (leftOf es seen).toList
open Go.ChangeMaps (setBlock) in
theorem wpList_next_any {P : Program} {ops : Array Oper} {rest : List Oper} {o : Oper} {a : Act} {w : World} {Q : Exit → Act → World → Prop} (hgd : o.guard = none) (it : Operand) (ho : o.op = .next it false)
    (r bm since c0 : Nat) (seen : Array Nat) (es : Array MapEntry) (clock : Nat) (hit : a.eval it = .pointer (some ⟨r, 0, none⟩))
    (hr : w.heap[r]? = some (.mapIter (some bm) since seen c0)) (hb : w.heap[bm]? = some (.map es clock)) (hold : ∀ x ∈ es.toList, x.born < since) (hsc : since ≤ c0)
    (hDone : NoneLeft es seen → wpList P ops Q rest (a.put o.dst (.tuple #[.bool false])) w)
    (hMore : ∀ e, IsLeft e es seen → ∀ w2 : World, w2.heap[r]? = some (.mapIter (some bm) since (seen.push e.born) clock) → Below r w w2 → (∀ i, i ≠ r → w2.heap[i]? = w.heap[i]?) → w2.heap.size = w.heap.size →
      wpList P ops Q rest (a.put o.dst (.tuple #[.bool true, e.key, e.val])) w2) :
    wpList P ops Q (o :: rest) a w := by
  have hlt : r < w.heap.size := lt_of_heap hr
  refine wpList_plain hgd fun K hK => ?_
  unfold Oper.wp
  rcases run_next_at (P := P) w o.type r bm since c0 seen es clock hr hb hold hsc with ⟨h0, hrun⟩ | ⟨e, he, w1, hw, hrun⟩
  · simp [execOp, ho, hit, hrun, Result.andThen]
    exact hK _ _ (hDone h0)
  · simp [execOp, ho, hit, hrun, Result.andThen]
    refine hK _ _ (hMore e he _ ?_ ?_ ?_ ?_)
    · rcases hw with rfl | rfl <;> simp [setBlock, hlt]
    · have hne : ∀ i, i < r → (w.heap.setIfInBounds r (.mapIter (some bm) since (seen.push e.born) clock))[i]? = w.heap[i]? := fun i hi => Array.getElem?_setIfInBounds_ne (by omega)
      rcases hw with rfl | rfl
      · exact ⟨rfl, rfl, rfl, by simp [setBlock], hne⟩
      · exact ⟨rfl, rfl, rfl, by simp [setBlock], hne⟩
    · intro i hi
      have hne : (w.heap.setIfInBounds r (.mapIter (some bm) since (seen.push e.born) clock))[i]? = w.heap[i]? := Array.getElem?_setIfInBounds_ne (fun h => hi h.symm)
      rcases hw with rfl | rfl <;> exact hne
    · rcases hw with rfl | rfl <;> simp [setBlock]
def rowOf (v : Value) (j : Nat) : Int :=
  match v with
  | .agg cs => match cs[j]? with
    | some (.int _ n) => n
    | _ => 0
  | _ => 0
def keyS (e : MapEntry) : ByteArray :=
  match e.key with
  | .string s => s
  | _ => .empty
theorem tab_form : ∀ e ∈ tabE.toList, e.key = .string (keyS e) ∧ e.val = .agg #[.int .i8 (rowOf e.val 0), .int .i8 (rowOf e.val 1), .int .i8 (rowOf e.val 2), .int .i8 (rowOf e.val 3), .int .i8 (rowOf e.val 4), .int .i8 (rowOf e.val 5)] := by
  intro e he
  simp only [tabE, List.mem_cons, List.not_mem_nil, or_false] at he
  rcases he with rfl | rfl | rfl | rfl | rfl | rfl | rfl | rfl | rfl | rfl | rfl | rfl | rfl | rfl | rfl | rfl <;> exact ⟨rfl, rfl⟩
theorem tab_old : ∀ x ∈ tabE.toList, x.born < 16 := by decide
theorem tab_nodup : (tabE.toList.map (·.born)).Nodup := by decide
set_option maxRecDepth 100000 in
set_option maxHeartbeats 800000 in
theorem name_any (f : Nat → Int) (w : World) : Calls Try.prog 64 #[.agg #[.int .i8 (f 0), .int .i8 (f 1), .int .i8 (f 2), .int .i8 (f 3), .int .i8 (f 4), .int .i8 (f 5)]] w fun e w' =>
    ((∃ m ∈ tabE.toList, m.val = .agg #[.int .i8 (f 0), .int .i8 (f 1), .int .i8 (f 2), .int .i8 (f 3), .int .i8 (f 4), .int .i8 (f 5)] ∧ e = .returned (.tuple #[.string (keyS m), .bool true])) ∨ ((∀ m ∈ tabE.toList, m.val ≠ .agg #[.int .i8 (f 0), .int .i8 (f 1), .int .i8 (f 2), .int .i8 (f 3), .int .i8 (f 4), .int .i8 (f 5)]) ∧ e = .returned (.tuple #[.string ⟨#[]⟩, .bool false]))) ∧ Below w.heap.size w w' := by
  have hrm := run_range_map (P := Try.prog) ((w.alloc (.cells #[.int .i8 (f 0), .int .i8 (f 1), .int .i8 (f 2), .int .i8 (f 3), .int .i8 (f 4), .int .i8 (f 5)] 54)).alloc (.map tabE 16)) 125 9 54 (w.heap.size + 1) tabE 16 Try.underlying125 (by rw [show w.heap.size + 1 = (w.alloc (.cells #[.int .i8 (f 0), .int .i8 (f 1), .int .i8 (f 2), .int .i8 (f 3), .int .i8 (f 4), .int .i8 (f 5)] 54)).heap.size by simp]; exact heap_alloc_last _ _)
  rw [show ((w.alloc (.cells #[.int .i8 (f 0), .int .i8 (f 1), .int .i8 (f 2), .int .i8 (f 3), .int .i8 (f 4), .int .i8 (f 5)] 54)).alloc (.map tabE 16)).heap.size = w.heap.size + 1 + 1 by simp] at hrm
  go_enter Try.func64, Try.ntmps64
  go_wp2_with (go_at_call 103; (with_reducible refine (table_any _).mono ?_); rintro e w1 ⟨rfl, rfl⟩)
  go_loopw [4] (fun _ wr => ∃ seen c0, 16 ≤ c0 ∧ wr.heap[w.heap.size]? = some (.cells #[.int .i8 (f 0), .int .i8 (f 1), .int .i8 (f 2), .int .i8 (f 3), .int .i8 (f 4), .int .i8 (f 5)] 54) ∧ wr.heap[w.heap.size + 1]? = some (.map tabE 16) ∧ wr.heap[w.heap.size + 1 + 1]? = some (.mapIter (some (w.heap.size + 1)) 16 seen c0) ∧ Hid (∀ m ∈ tabE.toList, seen.contains m.born = true → m.val ≠ .agg #[.int .i8 (f 0), .int .i8 (f 1), .int .i8 (f 2), .int .i8 (f 3), .int .i8 (f 4), .int .i8 (f 5)]) ∧ Grew w.heap.size w wr)
    (fun _ wr => (leftOf tabE (wr.iterSeen (w.heap.size + 1 + 1))).size)
  case atStart => exact ⟨#[], 16, Nat.le_refl _, heap_past (heap_past (heap_alloc_last _ _)), heap_past (by rw [show w.heap.size + 1 = (w.alloc (.cells #[.int .i8 (f 0), .int .i8 (f 1), .int .i8 (f 2), .int .i8 (f 3), .int .i8 (f 4), .int .i8 (f 5)] 54)).heap.size by simp]; exact heap_alloc_last _ _), heap_at2 _ _ _ _, hide_ (fun m _ h => by simp at h), (((Grew.refl w).alloc _).alloc _).alloc _⟩
  case round =>
    obtain ⟨seen, c0, hc0, hf, hm, hr, hs, hgr⟩ := hrel
    clear hrm
    have hr0 := hr
    go_wp2_with (at_next; refine wpList_next_any rfl _ rfl (w.heap.size + 1 + 1) (w.heap.size + 1) 16 c0 seen tabE 16 rfl hr hm tab_old hc0 ?_ ?_)
    · intro h0
      go_wp2
      go_ret2
      refine ⟨.inr ⟨fun m hm' => ?_, rfl⟩, by exact Grew.below (by repeat (first | exact Grew.refl _ | assumption | refine Grew.alloc ?_ _ | refine Grew.drewN ?_ _ | refine Grew.drew ?_ | refine Grew.setRow ?_ (by first | assumption | (simp; done) | (simp; omega) | omega) _ | refine Grew.setCell ?_ (by first | assumption | (simp; done) | (simp; omega) | omega) _ | refine Grew.step ?_ (by assumption)))⟩
      refine hs.out m hm' ?_
      cases hc : seen.contains m.born with
      | true => rfl
      | false =>
        have : m ∈ leftOf tabE seen := Array.mem_filter.2 ⟨Array.mem_toList_iff.1 hm', by rw [hc]; rfl⟩
        have := Array.size_pos_of_mem this
        have : (leftOf tabE seen).size = 0 := h0
        omega
    · intro e he w2 hr2 hb2 hk2 hs2
      have hmem := mem_left he
      have hshr := hide_ (left_shrinks tabE seen e he)
      obtain ⟨hkey, hval⟩ := tab_form e hmem.1
      have hf2 := (hk2 w.heap.size (by omega)).trans hf
      have hm2 := (hk2 (w.heap.size + 1) (by omega)).trans hm
      have hen := run_entry_at (P := Try.prog) w2 (w.heap.size + 1 + 1) (w.heap.size + 1) 16 seen tabE 16 e hr2 hm2 hmem.1 tab_nodup
      have hg2 : Grew w.heap.size w w2 := hgr.more (hb2.mono (by omega))
      have Hs := hide_ hs2
      rw [hkey, hval] at hen ⊢
      have HM := hide_ hmem
      have HV := hide_ hval
      have heq := fun wx => run_eq6 (rowOf e.val) f wx
      clear he hb2 hkey hval hs2 hgr hmem hk2 hr hm hf
      generalize hgq : rowOf e.val = g at heq HV hen ⊢
      generalize hks : keyS e = s at hen ⊢
      have HK := hide_ hks
      clear hgq hks
      have hf3 := heap_past (o' := .cells #[.int .i8 (g 0), .int .i8 (g 1), .int .i8 (g 2), .int .i8 (g 3), .int .i8 (g 4), .int .i8 (g 5)] 54) hf2
      cases hq : eq6 g f with
      | true =>
        rw [hq] at heq
        have HQ := hide_ ((eq6_iff g f).1 hq)
        clear hq
        go_wp2_with (first | ((with_reducible apply wpList_store_new); (with_reducible rfl); (with_reducible rfl); rfl; rfl; kernel_rfl; rfl; kernel_rfl) | ((with_reducible apply wpList_load_row (hu := Try.underlying54)); (with_reducible rfl); (with_reducible rfl); rfl; (first | assumption | exact heap_alloc_last _ _ | exact heap_past (by assumption)); rfl; kernel_rfl))
        go_ret2
        refine ⟨.inl ⟨e, by simpa using HM.out.1, ?_, ?_⟩, by exact Grew.below (by repeat (first | exact Grew.refl _ | assumption | refine Grew.alloc ?_ _ | refine Grew.drewN ?_ _ | refine Grew.drew ?_ | refine Grew.setRow ?_ (by first | assumption | (simp; done) | (simp; omega) | omega) _ | refine Grew.setCell ?_ (by first | assumption | (simp; done) | (simp; omega) | omega) _ | refine Grew.step ?_ (by assumption)))⟩
        · rw [HV.out, HQ.out]
        · simp [HK.out]
      | false =>
        rw [hq] at heq
        have HQ : Hid (¬ (#[.int .i8 (g 0), .int .i8 (g 1), .int .i8 (g 2), .int .i8 (g 3), .int .i8 (g 4), .int .i8 (g 5)] : Array Value) = #[.int .i8 (f 0), .int .i8 (f 1), .int .i8 (f 2), .int .i8 (f 3), .int .i8 (f 4), .int .i8 (f 5)]) := hide_ (fun h => by rw [(eq6_iff g f).2 h] at hq; cases hq)
        clear hq
        go_wp2_with (first | ((with_reducible apply wpList_store_new); (with_reducible rfl); (with_reducible rfl); rfl; rfl; kernel_rfl; rfl; kernel_rfl) | ((with_reducible apply wpList_load_row (hu := Try.underlying54)); (with_reducible rfl); (with_reducible rfl); rfl; (first | assumption | exact heap_alloc_last _ _ | exact heap_past (by assumption)); rfl; kernel_rfl))
        have hr3 := heap_past (o' := .cells #[.int .i8 (g 0), .int .i8 (g 1), .int .i8 (g 2), .int .i8 (g 3), .int .i8 (g 4), .int .i8 (g 5)] 54) hr2
        go_roundw
        case rel =>
          refine ⟨_, 16, Nat.le_refl _, hf3, heap_past hm2, hr3, hide_ (fun m hm' hc => ?_), hg2.alloc _⟩
          rw [contains_push, Bool.or_eq_true] at hc
          rcases hc with hc | hc
          · exact hs.out m hm' hc
          · obtain rfl := born_inj tab_nodup hm' HM.out.1 (by simpa using hc)
            rw [HV.out]
            intro h
            exact HQ.out (by injection h)
        case measure =>
          rw [show (w2.alloc (.cells #[.int .i8 (g 0), .int .i8 (g 1), .int .i8 (g 2), .int .i8 (g 3), .int .i8 (g 4), .int .i8 (g 5)] 54)).iterSeen (w.heap.size + 1 + 1) = seen.push e.born by unfold World.iterSeen; rw [hr3], show wr.iterSeen (w.heap.size + 1 + 1) = seen by unfold World.iterSeen; rw [hr0]]
          exact hshr.out
end Go.Proofs.Ytklhdpkofpkmjaa
