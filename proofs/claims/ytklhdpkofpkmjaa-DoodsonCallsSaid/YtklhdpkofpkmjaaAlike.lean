/- Chapter 11: what Times, Over and Conj answer is the same in the program and in the reference, of any arguments. -/
import Derived.Test.YtklhdpkofpkmjaaRsum3
import Derived.Test.YtklhdpkofpkmjaaGrp4
namespace Go.Proofs.Ytklhdpkofpkmjaa
open Go.RowKit
set_option maxHeartbeats 800000
set_option maxRecDepth 100000
set_option linter.unusedVariables false
theorem zero_ar : (#[.int .i8 (zero6 0), .int .i8 (zero6 1), .int .i8 (zero6 2), .int .i8 (zero6 3), .int .i8 (zero6 4), .int .i8 (zero6 5)] : Array Value) = #[.int .i8 0, .int .i8 0, .int .i8 0, .int .i8 0, .int .i8 0, .int .i8 0] := rfl
theorem zero_good : Good zero6 := fun j _ => by unfold zero6; omega
theorem op102_plus (f g : Nat → Int) : op102 1 f g = op95 f g := by funext j; simp [op102, op95]
theorem op102_less (f g : Nat → Int) : op102 (-1) f g = op96 f g := by funext j; simp [op102, op96]; omega
theorem op102_opp (f : Nat → Int) : op102 (-1) zero6 f = op97 f f := by funext j; simp [op102, op97, zero6]
/-- Two functions answer alike. -/
def Alike (n m : Nat) (a b : Array Value) : Prop := ∃ (h : Nat → Int) (e1 : Int),
  (∀ wx : World, Calls Try.prog n a wx fun e w' => e = .returned (.tuple #[.agg #[.int .i8 (h 0), .int .i8 (h 1), .int .i8 (h 2), .int .i8 (h 3), .int .i8 (h 4), .int .i8 (h 5)], .int .i64 e1]) ∧ Below wx.heap.size wx w') ∧
  (∀ wx : World, Calls Try.prog m b wx fun e w' => e = .returned (.tuple #[.agg #[.int .i8 (h 0), .int .i8 (h 1), .int .i8 (h 2), .int .i8 (h 3), .int .i8 (h 4), .int .i8 (h 5)], .int .i64 e1]) ∧ Below wx.heap.size wx w')
theorem joined_alike (f g : Nat → Int) : Alike 94 102 #[.agg #[.int .i8 (f 0), .int .i8 (f 1), .int .i8 (f 2), .int .i8 (f 3), .int .i8 (f 4), .int .i8 (f 5)], .agg #[.int .i8 (g 0), .int .i8 (g 1), .int .i8 (g 2), .int .i8 (g 3), .int .i8 (g 4), .int .i8 (g 5)], .func (.func 95) #[] #[]] #[.agg #[.int .i8 (f 0), .int .i8 (f 1), .int .i8 (f 2), .int .i8 (f 3), .int .i8 (f 4), .int .i8 (f 5)], .agg #[.int .i8 (g 0), .int .i8 (g 1), .int .i8 (g 2), .int .i8 (g 3), .int .i8 (g 4), .int .i8 (g 5)], .int .i8 1] := by
  by_cases h : Good f ∧ Good g
  · by_cases hh : Good (op95 f g)
    · exact ⟨op95 f g, 0, fun wx => left_c hh (joined95_ok f g wx h.1 h.2), fun wx => by
        have := rsum_ok 1 f g wx (.inl rfl) h.1 h.2
        rw [op102_plus] at this
        exact left_c hh this⟩
    · exact ⟨zero6, 210, fun wx => right_c hh (joined95_ok f g wx h.1 h.2), fun wx => by
        have := rsum_ok 1 f g wx (.inl rfl) h.1 h.2
        rw [op102_plus] at this
        exact right_c hh this⟩
  · exact ⟨zero6, 210, fun wx => joined_no _ f g wx h, fun wx => rsum_no 1 f g wx h⟩
theorem joined_alike2 (f g : Nat → Int) : Alike 94 102 #[.agg #[.int .i8 (f 0), .int .i8 (f 1), .int .i8 (f 2), .int .i8 (f 3), .int .i8 (f 4), .int .i8 (f 5)], .agg #[.int .i8 (g 0), .int .i8 (g 1), .int .i8 (g 2), .int .i8 (g 3), .int .i8 (g 4), .int .i8 (g 5)], .func (.func 96) #[] #[]] #[.agg #[.int .i8 (f 0), .int .i8 (f 1), .int .i8 (f 2), .int .i8 (f 3), .int .i8 (f 4), .int .i8 (f 5)], .agg #[.int .i8 (g 0), .int .i8 (g 1), .int .i8 (g 2), .int .i8 (g 3), .int .i8 (g 4), .int .i8 (g 5)], .int .i8 (-1)] := by
  by_cases h : Good f ∧ Good g
  · by_cases hh : Good (op96 f g)
    · exact ⟨op96 f g, 0, fun wx => left_c hh (joined96_ok f g wx h.1 h.2), fun wx => by
        have := rsum_ok (-1) f g wx (.inr rfl) h.1 h.2
        rw [op102_less] at this
        exact left_c hh this⟩
    · exact ⟨zero6, 210, fun wx => right_c hh (joined96_ok f g wx h.1 h.2), fun wx => by
        have := rsum_ok (-1) f g wx (.inr rfl) h.1 h.2
        rw [op102_less] at this
        exact right_c hh this⟩
  · exact ⟨zero6, 210, fun wx => joined_no _ f g wx h, fun wx => rsum_no (-1) f g wx h⟩
theorem joined_alike3 (f : Nat → Int) : Alike 94 102 #[.agg #[.int .i8 (f 0), .int .i8 (f 1), .int .i8 (f 2), .int .i8 (f 3), .int .i8 (f 4), .int .i8 (f 5)], .agg #[.int .i8 (f 0), .int .i8 (f 1), .int .i8 (f 2), .int .i8 (f 3), .int .i8 (f 4), .int .i8 (f 5)], .func (.func 97) #[] #[]] #[.agg #[.int .i8 (zero6 0), .int .i8 (zero6 1), .int .i8 (zero6 2), .int .i8 (zero6 3), .int .i8 (zero6 4), .int .i8 (zero6 5)], .agg #[.int .i8 (f 0), .int .i8 (f 1), .int .i8 (f 2), .int .i8 (f 3), .int .i8 (f 4), .int .i8 (f 5)], .int .i8 (-1)] := by
  by_cases h : Good f
  · by_cases hh : Good (op97 f f)
    · exact ⟨op97 f f, 0, fun wx => left_c hh (joined97_ok f f wx h h), fun wx => by
        have := rsum_ok (-1) zero6 f wx (.inr rfl) zero_good h
        rw [op102_opp] at this
        exact left_c hh this⟩
    · exact ⟨zero6, 210, fun wx => right_c hh (joined97_ok f f wx h h), fun wx => by
        have := rsum_ok (-1) zero6 f wx (.inr rfl) zero_good h
        rw [op102_opp] at this
        exact right_c hh this⟩
  · exact ⟨zero6, 210, fun wx => joined_no _ f f wx (fun hh => h hh.1), fun wx => rsum_no (-1) zero6 f wx (fun hh => h hh.2)⟩
end Go.Proofs.Ytklhdpkofpkmjaa
