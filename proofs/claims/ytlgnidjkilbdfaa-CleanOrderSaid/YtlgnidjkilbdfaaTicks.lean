/- Chapter 19: the ticks of a record, rising. -/
import Derived.Test.YtlgnidjkilbdfaaRec
import Derived.Test.YtlgnidjkilbdfaaShelf
namespace Go.Proofs.Ytlgnidjkilbdfaa
open Go.RowKit Go.Maps Go.Sort Go.Shelf
set_option linter.unusedVariables false
set_option maxRecDepth 100000
theorem sorts98 (m : Nat) : AnyZI.SortsIn Try.prog Try.sorted98_ren Fence.wide m :=
  ⟨fun blk off cap ss W hH hblk hsz => callsIn_wide.2 (AnyM.slices_Sort_int Try.sort117 blk off cap ss W hH hblk hsz),
   fun p cap W => callsIn_wide.2 (AnyM.slices_Sort_int_none Try.sort117 p cap W)⟩
theorem keys_dat (L : Rc) : intKeys (datL L) = L.map (·.1) := by
  unfold intKeys datL
  simp only [List.map_map]
  rfl
theorem asc_perm : ∀ {l l' : List Int}, l.Perm l' → l.Pairwise (· ≤ ·) → l'.Pairwise (· < ·) → l = l'
  | [], l', hp, _, _ => hp.nil_eq
  | a :: r, [], hp, _, _ => absurd hp.symm.nil_eq (by simp)
  | a :: r, b :: s, hp, h1, h2 => by
    obtain ⟨a1, a2⟩ := List.pairwise_cons.1 h1
    obtain ⟨b1, b2⟩ := List.pairwise_cons.1 h2
    have hab : a = b := by
      have ha : a ∈ b :: s := hp.mem_iff.1 (by simp)
      have hb : b ∈ a :: r := hp.mem_iff.2 (by simp)
      rcases List.mem_cons.1 ha with e | ha
      · exact e
      · rcases List.mem_cons.1 hb with e | hb
        · exact e.symm
        · have x1 := a1 b hb
          have x2 := b1 a ha
          omega
    subst hab
    rw [asc_perm (List.Perm.cons_inv hp) a2 b2]
theorem sort_keys {ss : List Int} {L : Rc} (h : Asc L) (hp : ss.Perm (L.map (·.1))) : ss.mergeSort (fun x y => decide (x ≤ y)) = L.map (·.1) := by
  refine asc_perm ((List.mergeSort_perm _ _).trans hp) ?_ ?_
  · have := List.pairwise_mergeSort (le := fun x y : Int => decide (x ≤ y)) (fun a b c h1 h2 => by simp at *; omega) (fun a b => by simp; omega) ss
    exact this.imp (by simp)
  · exact List.pairwise_map.2 h
def iv (t : Int) : Value := .int .i64 t
set_option maxHeartbeats 1000000 in
theorem ticks_rec {w : World} {rb mb : Nat} {L : Rc} (h : Rec w rb mb L) : Calls Try.prog 68 #[.pointer (some ⟨rb, 0, none⟩)] w fun e w' =>
    ∃ v, e = .returned v ∧ w'.ownsRow w.heap.size 3 1 v L.length (L.map fun p => iv p.1) ∧ (v = .slice none 0 0 ↔ L = []) ∧ Below w.heap.size w w' := by
  refine (callsIn_wide (n := 6)).1 ?_
  have hn := hide_ (fun n => callsIn_wide (n := n).2 (none_rec h))
  have hcell := cells_one h.box
  have hown := h.own
  have hbl := hown.lt
  have hlen := h.ok.len
  have hseq : SeqGives Fence.wide 2 Try.prog 119 #[.pointer (some ⟨w.heap.size, 0, none⟩)] encZ (fun ss => ss.Perm (intKeys (datL L))) (Maps.size (datL L)) (w.alloc (.cells #[.map (some mb)] 63)) :=
    AnyZI.keys_gives (ρ := Try.keys104_ren) { Try.keys104 with } Fence.wide _ trivial rfl (by omega) w.heap.size mb L.length (datL L) _ (by simp) (by simp) (by
      obtain ⟨es, clock, hb, Ft, hs, hD⟩ := hown
      exact ⟨es, clock, (Below.heap_alloc _ _ mb hbl).trans hb, Ft, hs, hD⟩)
  have cK : ∀ mb W, CallsIn Fence.wide 5 Try.prog 104 #[.map mb] W fun e w' => e = .returned (.func (.func 119) #[] #[.pointer (some ⟨W.heap.size, 0, none⟩)]) ∧ w' = W.alloc (.cells #[.map mb] 63) := fun mb W => AnyZI.keys_in Try.keys104 Fence.wide 5 trivial rfl mb W
  have cS := AnyZI.sorted_in Try.sorted98 Fence.wide 5 trivial trivial trivial trivial rfl (by omega) (sorts98 _) (enters_of Try.func117 (by kernel_rfl) rfl) 119 #[.pointer (some ⟨w.heap.size, 0, none⟩)] trivial (enters_of Try.func119 (by kernel_rfl) rfl) _ _ (by rw [size_dat]; unfold maxLen; omega) (by rw [size_dat]; omega) _ hseq
  change CallsIn _ _ Try.prog 98 _ _ _ at cS
  have hfK : Fence.wide.fn 104 := trivial
  have hfS : Fence.wide.fn 98 := trivial
  have hfN : Fence.wide.fn 73 := trivial
  have HA := hide_ h.ok.asc
  clear hseq hown hbl hlen h
  refine callsIn_of_wp Try.func68 rfl trivial ?_ rfl
  simp only [Try.ntmps68, List.size_toArray, List.length_cons, List.length_nil, Nat.reduceAdd, Nat.reduceSub, Array.replicate_succ, Array.replicate_zero, List.push_toArray, List.append_toArray, List.nil_append, List.cons_append]
  gi_wp2_with (first
    | (gi_at_call 73; refine (hn.out _).mono ?_; rintro e w' ⟨rfl, rfl⟩)
    | (gi_at_call 104; refine (cK _ _).mono ?_; rintro e w' ⟨rfl, rfl⟩)
    | (gi_at_call 98; refine cS.mono ?_; rintro e w' ⟨v, ss, rfl, hS, hrow, hnil, hb⟩))
  go_ret
  rw [keys_dat] at hS
  rw [sort_keys HA.out hS, hS.length_eq, List.length_map, List.map_map] at hrow
  refine ⟨v, rfl, ownsRow_base_a hrow (by simp), ?_, ((Below.refl _ w).alloc (Nat.le_refl _) _).trans (hb.mono (by simp))⟩
  rw [hnil]
  constructor
  · intro e; subst e; simpa using hS.nil_eq
  · intro e; subst e; simpa using hS
end Go.Proofs.Ytlgnidjkilbdfaa
