/- The table of names as a map: what a literal of entries lays into memory, and what is found there. -/
import Derived.Test.YtklhdpkofpkmjaaDood3
import Derived.MapKept
namespace Go.Proofs.Ytklhdpkofpkmjaa
open Go.RowKit
theorem heap_set_last (w : World) (o o' : Obj) : { (w.alloc o) with heap := (w.alloc o).heap.set! w.heap.size o' } = w.alloc o' := by
  simp only [World.alloc]
  congr 1
  apply Array.ext_getElem?
  intro i
  simp [Array.getElem?_push, Array.getElem?_setIfInBounds]
  grind
theorem run_insert_new {P : Program} (w : World) (t kt et : TypeId) (es : Array MapEntry) (c : Nat) (s : ByteArray) (v : Value) (ht : P.underlying t = some (.map kt et)) (hk : P.underlying kt = some .string)
    (hf : Instr.findNow .string (.string s) es.toList 0 = some none) :
    (Instr.mapUpdate t (.map (some w.heap.size)) (.string s) v).run P (w.alloc (.map es c)) = .ok () (w.alloc (.map (es.push { key := .string s, val := v, born := c }) (c + 1))) := by
  have hb : (w.alloc (.map es c)).heap[w.heap.size]? = some (.map es c) := heap_alloc_last _ _
  have hc := MapKept.run_checkKey (P := P) (w := w.alloc (.map es c)) (k := .string s) hk (show MapKept.IsKey .string (.string s) from True.intro) false 9999
  simp [Instr.mapUpdate, run_underlying ht, MapKept.run_getObj_map hb, Result.andThen, hc, Instr.findKey, run_underlying hk, hf, MapKept.run_setObj_map _ hb]
  exact heap_set_last _ _ _
theorem wpList_insert_new {P : Program} {ops : Array Oper} {rest : List Oper} {o : Oper} {a : Act} {w : World} {Q : Exit → Act → World → Prop} (hgd : o.guard = none) (t : TypeId) (m k x : Operand) (ho : o.op = .insert t m k x)
    (es : Array MapEntry) (c : Nat) (kt et : TypeId) (s : ByteArray) (v : Value) (ht : P.underlying t = some (.map kt et)) (hk : P.underlying kt = some .string)
    (hm : a.eval m = .map (some w.heap.size)) (hs : a.eval k = .string s) (hv : a.eval x = v) (hf : Instr.findNow .string (.string s) es.toList 0 = some none)
    (h : wpList P ops Q rest (a.put o.dst undef) (w.alloc (.map (es.push { key := .string s, val := v, born := c }) (c + 1)))) : wpList P ops Q (o :: rest) a (w.alloc (.map es c)) := by
  refine wpList_plain hgd fun _ hK => ?_
  unfold Oper.wp execOp
  simp only [ho, hm, hs, hv, Sem.run_bind, Sem.run_pure, run_insert_new w t kt et es c s v ht hk hf, Result.andThen_ok]
  exact hK _ _ h
def tabE : Array MapEntry := #[{ key := .string ⟨#[75, 49]⟩, val := .agg #[.int .i8 1, .int .i8 1, .int .i8 0, .int .i8 0, .int .i8 0, .int .i8 0], born := 0 },
  { key := .string ⟨#[75, 50]⟩, val := .agg #[.int .i8 2, .int .i8 2, .int .i8 0, .int .i8 0, .int .i8 0, .int .i8 0], born := 1 },
  { key := .string ⟨#[76, 50]⟩, val := .agg #[.int .i8 2, .int .i8 1, .int .i8 0, .int .i8 (-1), .int .i8 0, .int .i8 0], born := 2 },
  { key := .string ⟨#[77, 50]⟩, val := .agg #[.int .i8 2, .int .i8 0, .int .i8 0, .int .i8 0, .int .i8 0, .int .i8 0], born := 3 },
  { key := .string ⟨#[77, 52]⟩, val := .agg #[.int .i8 4, .int .i8 0, .int .i8 0, .int .i8 0, .int .i8 0, .int .i8 0], born := 4 },
  { key := .string ⟨#[77, 83, 52]⟩, val := .agg #[.int .i8 4, .int .i8 2, .int .i8 (-2), .int .i8 0, .int .i8 0, .int .i8 0], born := 5 },
  { key := .string ⟨#[77, 102]⟩, val := .agg #[.int .i8 0, .int .i8 2, .int .i8 0, .int .i8 0, .int .i8 0, .int .i8 0], born := 6 },
  { key := .string ⟨#[77, 109]⟩, val := .agg #[.int .i8 0, .int .i8 1, .int .i8 0, .int .i8 (-1), .int .i8 0, .int .i8 0], born := 7 },
  { key := .string ⟨#[78, 50]⟩, val := .agg #[.int .i8 2, .int .i8 (-1), .int .i8 0, .int .i8 1, .int .i8 0, .int .i8 0], born := 8 },
  { key := .string ⟨#[78, 50, 120]⟩, val := .agg #[.int .i8 2, .int .i8 (-2), .int .i8 0, .int .i8 2, .int .i8 0, .int .i8 0], born := 9 },
  { key := .string ⟨#[79, 49]⟩, val := .agg #[.int .i8 1, .int .i8 (-1), .int .i8 0, .int .i8 0, .int .i8 0, .int .i8 0], born := 10 },
  { key := .string ⟨#[80, 49]⟩, val := .agg #[.int .i8 1, .int .i8 1, .int .i8 (-2), .int .i8 0, .int .i8 0, .int .i8 0], born := 11 },
  { key := .string ⟨#[81, 49]⟩, val := .agg #[.int .i8 1, .int .i8 (-2), .int .i8 0, .int .i8 1, .int .i8 0, .int .i8 0], born := 12 },
  { key := .string ⟨#[83, 50]⟩, val := .agg #[.int .i8 2, .int .i8 2, .int .i8 (-2), .int .i8 0, .int .i8 0, .int .i8 0], born := 13 },
  { key := .string ⟨#[83, 97]⟩, val := .agg #[.int .i8 0, .int .i8 0, .int .i8 1, .int .i8 0, .int .i8 0, .int .i8 0], born := 14 },
  { key := .string ⟨#[83, 115, 97]⟩, val := .agg #[.int .i8 0, .int .i8 0, .int .i8 2, .int .i8 0, .int .i8 0, .int .i8 0], born := 15 }]
set_option maxRecDepth 100000 in
theorem table_any (w : World) : Calls Try.prog 103 #[] w fun e w' => e = .returned (.map (some w.heap.size)) ∧ w' = w.alloc (.map tabE 16) := by
  have hmm := @run_makeMap Try.prog
  go_enter Try.func103, Try.ntmps103
  go_wp2_with ((with_reducible apply wpList_insert_new); (with_reducible rfl); (with_reducible rfl); exact Try.underlying125; exact Try.underlying9; rfl; rfl; rfl; kernel_rfl)
  go_ret
  exact ⟨rfl, by kernel_rfl⟩
theorem run_lookup_last {P : Program} (w : World) (t kt et : TypeId) (es : Array MapEntry) (c : Nat) (s : ByteArray) (i : Nat) (v : Value) (ht : P.underlying t = some (.map kt et)) (hk : P.underlying kt = some .string)
    (hf : Instr.findNow .string (.string s) es.toList 0 = some (some (i, v))) :
    (Instr.lookup t (.map (some w.heap.size)) (.string s) true).run P (w.alloc (.map es c)) = .ok (.tuple #[v, .bool true]) (w.alloc (.map es c)) := by
  have hb : (w.alloc (.map es c)).heap[w.heap.size]? = some (.map es c) := heap_alloc_last _ _
  have hc := fun b => MapKept.run_checkKey (P := P) (w := w.alloc (.map es c)) (k := .string s) hk (show MapKept.IsKey .string (.string s) from True.intro) b 9999
  simp [Instr.lookup, run_underlying ht, MapKept.run_getObj_map hb, Result.andThen, hc, Instr.findKey, run_underlying hk, hf]
theorem run_lookup_miss {P : Program} (w : World) (t kt et : TypeId) (es : Array MapEntry) (c : Nat) (s : ByteArray) (z : Value) (ht : P.underlying t = some (.map kt et)) (hk : P.underlying kt = some .string)
    (hz : ∀ w, (zeroValue et).run P w = .ok z w) (hf : Instr.findNow .string (.string s) es.toList 0 = some none) :
    (Instr.lookup t (.map (some w.heap.size)) (.string s) true).run P (w.alloc (.map es c)) = .ok (.tuple #[z, .bool false]) (w.alloc (.map es c)) := by
  have hb : (w.alloc (.map es c)).heap[w.heap.size]? = some (.map es c) := heap_alloc_last _ _
  have hc := fun b => MapKept.run_checkKey (P := P) (w := w.alloc (.map es c)) (k := .string s) hk (show MapKept.IsKey .string (.string s) from True.intro) b 9999
  simp [Instr.lookup, run_underlying ht, MapKept.run_getObj_map hb, Result.andThen, hc, Instr.findKey, run_underlying hk, hf, hz]
set_option maxRecDepth 100000 in
theorem known_hit (s : ByteArray) (i : Nat) (f : Nat → Int) (w : World) (hf : Instr.findNow .string (.string s) tabE.toList 0 = some (some (i, .agg #[.int .i8 (f 0), .int .i8 (f 1), .int .i8 (f 2), .int .i8 (f 3), .int .i8 (f 4), .int .i8 (f 5)]))) :
    Calls Try.prog 73 #[.string s] w fun e w' => e = .returned (.tuple #[.agg #[.int .i8 (f 0), .int .i8 (f 1), .int .i8 (f 2), .int .i8 (f 3), .int .i8 (f 4), .int .i8 (f 5)], .int .i64 0]) ∧ Below w.heap.size w w' := by
  have hl := run_lookup_last (P := Try.prog) (w.alloc (.cells #[.int .i8 0, .int .i8 0, .int .i8 0, .int .i8 0, .int .i8 0, .int .i8 0] 54)) 125 9 54 tabE 16 s i _ Try.underlying125 Try.underlying9 hf
  rw [show (w.alloc (.cells #[.int .i8 0, .int .i8 0, .int .i8 0, .int .i8 0, .int .i8 0, .int .i8 0] 54)).heap.size = w.heap.size + 1 by simp] at hl
  clear hf
  go_enter Try.func73, Try.ntmps73
  go_wp2_with (go_at_call 103; (with_reducible refine (table_any _).mono ?_); rintro e w1 ⟨rfl, rfl⟩)
  refine bodyPost_ret (v := .tuple #[.agg #[.int .i8 (f 0), .int .i8 (f 1), .int .i8 (f 2), .int .i8 (f 3), .int .i8 (f 4), .int .i8 (f 5)], .int .i64 0]) (by simp [results, Try.results73, go_sem]) rfl ⟨rfl, ?_⟩
  exact Grew.below (by repeat (first | exact Grew.refl _ | assumption | refine Grew.alloc ?_ _ | refine Grew.drewN ?_ _ | refine Grew.drew ?_ | refine Grew.setRow ?_ (by first | assumption | (simp; done) | (simp; omega) | omega) _ | refine Grew.setCell ?_ (by first | assumption | (simp; done) | (simp; omega) | omega) _ | refine Grew.step ?_ (by assumption)))
set_option maxRecDepth 100000 in
theorem known_miss (s : ByteArray) (w : World) (hf : Instr.findNow .string (.string s) tabE.toList 0 = some none) :
    Calls Try.prog 73 #[.string s] w fun e w' => e = .returned (.tuple #[.agg #[.int .i8 0, .int .i8 0, .int .i8 0, .int .i8 0, .int .i8 0, .int .i8 0], .int .i64 6]) ∧ Below w.heap.size w w' := by
  have hl := run_lookup_miss (P := Try.prog) (w.alloc (.cells #[.int .i8 0, .int .i8 0, .int .i8 0, .int .i8 0, .int .i8 0, .int .i8 0] 54)) 125 9 54 tabE 16 s (.agg #[.int .i8 0, .int .i8 0, .int .i8 0, .int .i8 0, .int .i8 0, .int .i8 0]) Try.underlying125 Try.underlying9 (fun _ => by kernel_rfl) hf
  rw [show (w.alloc (.cells #[.int .i8 0, .int .i8 0, .int .i8 0, .int .i8 0, .int .i8 0, .int .i8 0] 54)).heap.size = w.heap.size + 1 by simp] at hl
  clear hf
  go_enter Try.func73, Try.ntmps73
  go_wp2_with (go_at_call 103; (with_reducible refine (table_any _).mono ?_); rintro e w1 ⟨rfl, rfl⟩)
  refine bodyPost_ret (v := .tuple #[.agg #[.int .i8 0, .int .i8 0, .int .i8 0, .int .i8 0, .int .i8 0, .int .i8 0], .int .i64 6]) (by simp [results, Try.results73, go_sem]) rfl ⟨rfl, ?_⟩
  exact Grew.below (by repeat (first | exact Grew.refl _ | assumption | refine Grew.alloc ?_ _ | refine Grew.drewN ?_ _ | refine Grew.drew ?_ | refine Grew.setRow ?_ (by first | assumption | (simp; done) | (simp; omega) | omega) _ | refine Grew.setCell ?_ (by first | assumption | (simp; done) | (simp; omega) | omega) _ | refine Grew.step ?_ (by assumption)))
end Go.Proofs.Ytklhdpkofpkmjaa
