/- Chapter 20: the finite heights, sorted. -/
import Derived.Test.YtlgnidjkilbdfaaShelg
import Derived.Test.YtlgnidjkilbdfaaRk
namespace Go.Proofs.Ytlgnidjkilbdfaa
open Go.RowKit Ieee Go.Shelf Go.Lib Go.Sort
set_option linter.unusedVariables false
set_option maxRecDepth 100000
/-- A slice of heights that reads as a list. -/
def FL (w : World) (p : Option Addr) (L : List Nat) : Prop := L = [] ∨ ∃ g o, p = some ⟨g, o, none⟩ ∧ g < w.heap.size ∧ ∀ k, k < L.length → w.cell? ⟨g, o + k, none⟩ = some (.float .f64 (L.getD k 0))
theorem FL.below {w w' : World} {p : Option Addr} {L : List Nat} (h : FL w p L) (hb : Below w.heap.size w w') : FL w' p L := by
  rcases h with rfl | ⟨g, o, rfl, hg, hc⟩
  · exact .inl rfl
  · exact .inr ⟨g, o, rfl, Nat.lt_of_lt_of_le hg hb.size, fun k hk => (hb.cell (p := ⟨g, _, none⟩) hg).trans (hc k hk)⟩
theorem FL.some_ {w : World} {p : Option Addr} {L : List Nat} (h : FL w p L) (hL : 0 < L.length) : ∃ g o, p = some ⟨g, o, none⟩ ∧ g < w.heap.size ∧ ∀ k, k < L.length → w.cell? ⟨g, o + k, none⟩ = some (.float .f64 (L.getD k 0)) := by
  rcases h with rfl | h
  · cases hL
  · exact h
def encF (x : Nat) : Value := .float .f64 x
theorem info24 : (Try.prog.info? 24).map (fun i => (i.zero, i.size, i.bytes)) = some (some (.float .f64 0), 1, 8) := by kernel_rfl
/-- slices.Clone at heights. -/
theorem clone_any (p : Option Addr) (n c : Nat) (L : List Nat) (w : World) (hn : n = L.length) (hp : FL w p L) (hsz : n * 8 ≤ 140737488355328) :
    Calls Try.prog 110 #[.slice p n c] w fun e w' => (∃ v, e = .returned v ∧ w'.ownsRow w.heap.size 24 1 v n (L.map encF)) ∧ Below w.heap.size w w' := by
  have q22 : ∀ (w : World) (a : Option Addr) (n c n' c' : Nat), (binOp .eql 80 (.slice a n c) (.slice none n' c')).run Try.prog w = .ok (.bool a.isNone) w := fun w a n c n' c' => Lib.run_eql_slice_nil w _ _ a n c n' c' Try.underlying80
  rcases p with _ | a
  · have hL : L = [] := by
      rcases hp with h | ⟨g, o, h, _⟩
      · exact h
      · cases h
    subst hL
    subst hn
    go_enter Try.func110, Try.ntmps110
    go_wp2
    go_ret
    exact ⟨⟨_, rfl, ⟨rfl, .inl ⟨rfl, rfl⟩⟩⟩, Below.refl _ _⟩
  · obtain ⟨i0, hi, hz0, hz1, hz2⟩ := info_parts info24
    have A : Hid (∀ j u, (L.map encF)[j]? = some u → w.cell? (a.add j) = some u) := hide_ (by
      intro j u hu
      rcases hp with rfl | ⟨g, o, h, hg, hc⟩
      · simp at hu
      · cases h
        have hj : j < L.length := by
          rcases Nat.lt_or_ge j L.length with h | h
          · exact h
          · rw [List.getElem?_eq_none (by simpa using h)] at hu; cases hu
        rw [Addr.add_lit, hc j hj]
        rw [List.getElem?_map, List.getElem?_eq_getElem hj] at hu
        simp only [Option.map_some, Option.some.injEq] at hu
        rw [← hu, List.getD_eq_getElem?_getD, List.getElem?_eq_getElem hj]
        rfl)
    have hl : (L.map encF).length = n * 1 := by simp [hn]
    clear hp hn
    go_enter Try.func110, Try.ntmps110
    go_wp2_with (at_builtin; refine wpList_append_own _ rfl _ _ 80 rfl w.heap.size 24 i0 _ 1 8 Try.underlying80 hi hz0 hz1 hz2 rfl (by omega) _ _ _ rfl (World.ownsRow_made w #[] 0 (Nat.le_refl _) (Nat.zero_le _) (by simp)) a n c (L.map encF) rfl ?qc1 ?qc2 ?qc3 ?qc4 ?qc5 ?qc6 ?_)
    case qc1 => exact hl
    case qc2 => exact fun j u hj => Lib.cell?_alloc_some _ (A.out j u hj)
    case qc3 =>
      intro u hu
      obtain ⟨x, _, rfl⟩ := List.mem_map.1 hu
      rfl
    case qc4 => rw [Nat.zero_add]; unfold maxLen; omega
    case qc5 => rw [Nat.zero_add]; exact hsz
    case qc6 => simp
    intro v' w1 hown hgrow hnil
    go_wp2
    go_ret
    exact ⟨⟨v', rfl, by simpa using hown⟩, ((Below.refl _ w).alloc (Nat.le_refl _) _).grown hgrow (by simp) (by intro k hk; simp [Value.ownBlock] at hk; omega)⟩
theorem closure111 (x : Nat) (hx : x < 2 ^ 64) (w : World) : Calls Try.prog 111 #[.float .f64 x] w fun e w' => e = .returned (.bool (!oneB x)) ∧ w = w' := by
  have HF := hide_ (finite_any x hx)
  generalize oneB x = b at *
  clear hx
  go_enter Try.func111, Try.ntmps111
  go_wp2_with (go_at_call 86; (with_reducible refine (HF.out _).mono ?_); rintro e w1 ⟨rfl, rfl⟩)
  go_ret
  exact ⟨rfl, rfl⟩
/-- A number as a word of 64 bits; as a finite one. -/
def wd (x : Nat) : Nat := if x < 2 ^ 64 then x else 0
def fd (x : Nat) : Nat := if x < 2 ^ 64 ∧ oneB x = true then x else 0
theorem wd_lt (x : Nat) : wd x < 2 ^ 64 := by unfold wd; split <;> omega
theorem fd_lt (x : Nat) : fd x < 2 ^ 64 := by unfold fd; split <;> omega
theorem fd_one (x : Nat) : oneB (fd x) = true := by
  unfold fd
  split
  · rename_i h; exact h.2
  · decide +kernel
theorem wd_of {x : Nat} (h : x < 2 ^ 64) : wd x = x := if_pos h
theorem fd_of {x : Nat} (h : x < 2 ^ 64) (h1 : oneB x = true) : fd x = x := if_pos ⟨h, h1⟩
def encW (x : Nat) : Value := .float .f64 (wd x)
def encD (x : Nat) : Value := .float .f64 (fd x)
theorem below_putRow {α : Type} [Inhabited α] {enc : α → Value} {B : Nat} {w0 w : World} {g o : Nat} {d : Array α} (h : Below B w0 w) (hg : B ≤ g) : Below B w0 (putRow enc w g o d) :=
  ⟨h.os, h.tape, h.output, by rw [size_putRow]; exact h.size, fun i hi => by
    rw [← h.block i hi]
    simp only [putRow, mapBlock, Array.getElem?_modify]
    rw [if_neg (by omega)]⟩
theorem below_grow {B : Nat} {w0 w : World} (h : Below B w0 w) (hB : B ≤ w.heap.size) (os : Array Obj) : Below B w0 (grow w os) :=
  ⟨h.os, h.tape, h.output, by have := h.size; simp; omega, fun i hi => by rw [heap_grow_old w os (by omega)]; exact h.block i hi⟩
theorem below_ahead {B : Nat} {w0 w : World} (h : Below B w0 w) (q : Nat) : Below B w0 (Sort.ahead w q) := ⟨h.os, h.tape, h.output, h.size, h.block⟩
theorem eg111 : ∀ args w, (callFunc 111 args).run Try.prog w = .ok (.enter 111 args) w := enters_of Try.func111 (by kernel_rfl) rfl
theorem eg113 : ∀ args w, (callFunc 113 args).run Try.prog w = .ok (.enter 113 args) w := enters_of Try.func113 (by kernel_rfl) rfl
theorem gives111 (x : Nat) (W : World) : FnGives Try.prog 111 #[] #[encW x] (.bool (!oneB (wd x))) W := by
  show Calls Try.prog 111 #[.float .f64 (wd x)] W _
  exact (closure111 (wd x) (wd_lt x) W).mono fun _ _ ⟨h, hw⟩ => ⟨h, 0, hw.symm⟩
/-- slices.DeleteFunc: nil. -/
theorem del_nil (w : World) : Calls Try.prog 109 #[.slice none 0 0, .func (.func 111) #[] #[]] w fun e w' => e = .returned (.slice none 0 0) ∧ w' = w := by
  have H := hide_ (fun W => AnyE.slices_IndexFunc_empty { Try.del109 with } none 0 (.func (.func 111) #[] #[]) W)
  have H2 : Hid (∀ W, Calls Try.prog 120 #[.slice none 0 0, .func (.func 111) #[] #[]] W fun e w' => e = .returned (.int .i64 (-1)) ∧ w' = W) := H
  clear H
  go_enter Try.func109, Try.ntmps109
  go_wp2_with (go_at_call 120; (with_reducible refine (H2.out _).mono ?_); rintro e w1 ⟨rfl, rfl⟩)
  go_ret
  exact ⟨rfl, rfl⟩
end Go.Proofs.Ytlgnidjkilbdfaa
