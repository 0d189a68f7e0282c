/- DoodsonGroup: products are sums of turns. The chapter's examples first. -/
import Derived.Test.YtklhdpkofpkmjaaPrn
namespace Go.Proofs.Ytklhdpkofpkmjaa
open Go.RowKit
def m2 (j : Nat) : Int := if j = 0 then 2 else 0
theorem m2_good : Good m2 := fun j _ => by unfold m2; split <;> omega
theorem known_m2 (w : World) : Calls Try.prog 73 #[.string ⟨#[77, 50]⟩] w fun e w' => e = .returned (.tuple #[.agg #[.int .i8 2, .int .i8 0, .int .i8 0, .int .i8 0, .int .i8 0, .int .i8 0], .int .i64 0]) ∧ Below w.heap.size w w' :=
  known_hit ⟨#[77, 50]⟩ 3 m2 w (by kernel_rfl)
theorem speed_m2 (w : World) : Calls Try.prog 46 #[.agg #[.int .i8 2, .int .i8 0, .int .i8 0, .int .i8 0, .int .i8 0, .int .i8 0]] w fun e w' => e = .returned (.tuple #[.agg #[.int .i64 144920521, .int .i64 1800000000], .int .i64 0]) ∧ Below w.heap.size w w' := by
  have h := dspeed_ok m2 w m2_good
  rw [show turnV (dsum m2 rowAdds 6 % 3600000000).toNat 3600000000 = #[.int .i64 144920521, .int .i64 1800000000] by kernel_rfl] at h
  exact h
theorem print_m2 (w : World) : Calls Try.prog 62 #[.agg #[.int .i8 2, .int .i8 0, .int .i8 0, .int .i8 0, .int .i8 0, .int .i8 0]] w fun e w' => e = .returned (.tuple #[.string ⟨#[55, 53, 53, 46, 53, 53, 53]⟩, .int .i64 0]) ∧ Below w.heap.size w w' := by
  have h := dprint_ok m2 w m2_good
  rw [show (pl m2 6).foldl (fun r n => r.push (UInt8.ofNat n.toNat)) ByteArray.empty = ⟨#[55, 53, 53, 46, 53, 53, 53]⟩ by kernel_rfl] at h
  exact h
theorem heap_past {w : World} {g : Nat} {o o' : Obj} (h : w.heap[g]? = some o) : (w.alloc o').heap[g]? = some o := (Below.heap_alloc _ _ _ (lt_of_heap h)).trans h
/-- Blocks and what they hold, the newest first. -/
def Mem (L : List (Nat × Array Value × TypeId)) (w : World) : Prop := ∀ x ∈ L, w.heap[x.1]? = some (.cells x.2.1 x.2.2 (0, 0))
theorem Mem.nil_ (w : World) : Mem [] w := fun _ h => by cases h
theorem Mem.at_ {L : List (Nat × Array Value × TypeId)} {w : World} (h : Mem L w) (i : Nat) {g : Nat} {cs : Array Value} {t : TypeId} (hi : L[i]? = some (g, cs, t)) : w.heap[g]? = some (.cells cs t (0, 0)) :=
  h _ (List.mem_of_getElem? hi)
theorem Mem.alloc {L : List (Nat × Array Value × TypeId)} {w : World} (h : Mem L w) (cs : Array Value) (t : TypeId) : Mem ((w.heap.size, cs, t) :: L) (w.alloc (.cells cs t)) := by
  intro x hx
  rcases List.mem_cons.1 hx with rfl | hx
  · exact heap_alloc_last _ _
  · have h1 := h x hx
    exact (Below.heap_alloc _ _ _ (lt_of_heap h1)).trans h1
theorem Mem.below {L : List (Nat × Array Value × TypeId)} {w w' : World} (h : Mem L w) (hb : Below w.heap.size w w') : Mem L w' := by
  intro x hx
  have h1 := h x hx
  exact (hb.block _ (lt_of_heap h1)).trans h1
theorem Mem.step {L : List (Nat × Array Value × TypeId)} {w w' : World} {cs : Array Value} {t : TypeId} (h : Mem L w) (hb : Below (w.alloc (.cells cs t)).heap.size (w.alloc (.cells cs t)) w') : Mem ((w.heap.size, cs, t) :: L) w' := (h.alloc cs t).below hb
theorem cells6v {w : World} {g : Nat} {T : TypeId} {a b c d e f : Value} (h : w.heap[g]? = some (.cells #[a, b, c, d, e, f] T)) :
    w.cell? ⟨g, 0, none⟩ = some a ∧ w.cell? ⟨g, 1, none⟩ = some b ∧ w.cell? ⟨g, 2, none⟩ = some c ∧ w.cell? ⟨g, 3, none⟩ = some d ∧ w.cell? ⟨g, 4, none⟩ = some e ∧ w.cell? ⟨g, 5, none⟩ = some f := by
  refine ⟨?_, ?_, ?_, ?_, ?_, ?_⟩ <;> (rw [cell_of_row _ _ _ _ _ _ h]; rfl)
set_option maxRecDepth 100000 in
theorem lives11 (w : World) : Calls Try.prog 39 #[] w fun e w' => e = .returned (.bool true) ∧ Below w.heap.size w w' := by
  have heq : ∀ wx, (Op.equalIn 10000 54 (.agg #[.int .i8 2, .int .i8 0, .int .i8 0, .int .i8 0, .int .i8 0, .int .i8 0]) (.agg #[.int .i8 2, .int .i8 0, .int .i8 0, .int .i8 0, .int .i8 0, .int .i8 0])).run Try.prog wx = .ok true wx := fun _ => by kernel_rfl
  go_enter Try.func39, Try.ntmps39
  go_wp2_with (first
    | (go_at_call 73; (with_reducible refine (known_m2 _).mono ?_); rintro e w1 ⟨rfl, hb1⟩)
    | (go_at_call 46; (with_reducible refine (speed_m2 _).mono ?_); rintro e w2 ⟨rfl, hb2⟩; have M2 := hide_ ((Mem.nil_ w1).step hb2); have h2 := M2.out.at_ 0 rfl)
    | (go_at_call 62; (with_reducible refine (print_m2 _).mono ?_); rintro e w3 ⟨rfl, hb3⟩; have M3 := hide_ (M2.out.step hb3); obtain ⟨c0, c1, c2, c3, c4, c5⟩ := cells6v (M3.out.at_ 1 rfl); obtain ⟨d0, d1⟩ := cells_two (M3.out.at_ 0 rfl))
    | ((with_reducible apply wpList_load_row (hu := Try.underlying54)); (with_reducible rfl); (with_reducible rfl); rfl; (first | assumption | exact heap_alloc_last _ _ | exact heap_past (by assumption)); rfl; kernel_rfl))
  go_ret
  refine ⟨rfl, ?_⟩
  have hg0 := Grew.of hb1
  exact Grew.below (by repeat (first | exact Grew.refl _ | assumption | refine Grew.alloc ?_ _ | refine Grew.drewN ?_ _ | refine Grew.drew ?_ | refine Grew.setRow ?_ (by first | assumption | (simp; done) | (simp; omega) | omega) _ | refine Grew.setCell ?_ (by first | assumption | (simp; done) | (simp; omega) | omega) _ | refine Grew.step ?_ (by assumption)))
end Go.Proofs.Ytklhdpkofpkmjaa
