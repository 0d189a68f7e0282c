/- Chapter 20: the law's own words on heights: the least, the greatest, the tiny ones. -/
import Derived.Test.YtlgnidjkilbdfaaLv
import Derived.StillTailTactics
namespace Go.Proofs.Ytlgnidjkilbdfaa
open Go.RowKit Ieee
set_option linter.unusedVariables false
set_option maxRecDepth 100000
theorem still_tail {P : Program} {id : Nat} {Q : Exit → Act → World → Prop} {a : Act} {w : World} {l : List Oper} (n : Nat) (hm : P.follows .mixedOrders = true) (hB : Region.lexTailB .any l.toArray n = true)
    (h : wpStill P l.toArray w.drew (fun a' => wpList P l.toArray Q (l.drop n) a' w.drew) (l.take n) a) : (Code.region id l.toArray true).wp P Q a w := wp_region_still_tail n hm hB h
def fltB (x y : Nat) : Bool := FloatKind.f64.format.order x y == some .lt
def fgtB (x y : Nat) : Bool := FloatKind.f64.format.order x y == some .gt
structure MM where
  n : Nat
  lo : Nat
  hi : Nat
def stepM (s : MM) (x : Nat) : MM := if oneB x then ⟨s.n + 1, if s.n = 0 ∨ fltB x s.lo = true then x else s.lo, if s.n = 0 ∨ fgtB x s.hi = true then x else s.hi⟩ else s
def mmTo (L : List Nat) (k : Nat) : MM := (L.take k).foldl stepM ⟨0, 0, 0⟩
theorem mmTo_succ {L : List Nat} {k : Nat} (h : k < L.length) : mmTo L (k + 1) = stepM (mmTo L k) (L.getD k 0) := by
  unfold mmTo
  rw [List.take_succ_eq_append_getElem h, List.foldl_append, List.getD_eq_getElem?_getD, List.getElem?_eq_getElem h]
  rfl
theorem mmTo_n {L : List Nat} : ∀ {k : Nat}, k ≤ L.length → (mmTo L k).n ≤ k
  | 0, _ => Nat.le_refl _
  | k + 1, h => by
    rw [mmTo_succ (by omega)]
    have := mmTo_n (L := L) (k := k) (by omega)
    unfold stepM
    split
    · show (mmTo L k).n + 1 ≤ k + 1; omega
    · omega
set_option maxHeartbeats 3200000 in
theorem finite_law (p : Option Addr) (n c : Nat) (L : List Nat) (w : World) (hn : n = L.length) (hp : FL w p L) (hs : n ≤ 1000000) :
    Calls Try.prog 44 #[.slice p n c] w fun e w' => e = .returned (.tuple #[.int .i64 (mmTo L L.length).n, .float .f64 (mmTo L L.length).lo, .float .f64 (mmTo L L.length).hi]) ∧ ∃ q, w' = w.drewN q := by
  subst hn
  have HP := hide_ hp
  clear hp
  go_enter Try.func44, Try.ntmps44
  go_wp2
  go_loopw [5, 6, 7, 8] (fun vn vl vh i wr => ∃ k : Nat, k ≤ L.length ∧ i = .int .i64 k ∧ vn = .int .i64 (mmTo L k).n ∧ vl = .float .f64 (mmTo L k).lo ∧ vh = .float .f64 (mmTo L k).hi ∧ ∃ q, wr = w.drewN q) (fun _ _ _ i _ => L.length - (intOf i).toNat)
  case atStart => exact ⟨0, by omega, rfl, rfl, rfl, rfl, 0, rfl⟩
  case round =>
    obtain ⟨k, hk, rfl, rfl, rfl, rfl, q, rfl⟩ := hrel
    by_cases hlt : k < L.length
    · obtain ⟨g, o, rfl, hg, hc⟩ := HP.out.some_ (by omega)
      have c0 := hc k hlt
      have hmn := mmTo_n hk
      have HM := hide_ (mmTo_succ hlt)
      have i3 : (k : Int) < (L.length : Int) := by omega
      have i4 : (0 : Int) ≤ (k : Int) := by omega
      clear hc
      generalize mmTo L k = s at *
      obtain ⟨m, lo, hi⟩ := s
      simp only at hmn
      generalize L.getD k 0 = x at *
      cases hone : oneB x
      · obtain ⟨r, hr, hrun⟩ := run_nan (P := Try.prog) (w.drewN (q + 1)) .sub 24 x x (.inr (.inl rfl)) (sub_not hone)
        have hcmp : FloatKind.f64.format.order r 0 = none := nan_order hr 0
        have hst : mmTo L (k + 1) = ⟨m, lo, hi⟩ := by rw [HM.out]; unfold stepM; rw [hone]; rfl
        have HS := hide_ hst
        clear hr hone hst HM
        go_wp2
        (refine still_tail 8 (by kernel_rfl) (by kernel_rfl) ?_; simp only [List.take_succ_cons, List.take_zero, List.drop_succ_cons, List.drop_zero]; (repeat still_step); refine wpStill_nil ?_)
        go_wp2
        go_roundw
        case rel => exact ⟨k + 1, by omega, by go_num, by rw [HS.out], by rw [HS.out], by rw [HS.out], q + 2, rfl⟩
        case measure => simp [intOf]; omega
      · have hrun := fun wx => run_float_arith (P := Try.prog) wx .sub 24 .f64 x x 0 (sub_one hone)
        have hcmp : FloatKind.f64.format.order 0 0 = some .eq := by decide +kernel
        have hst : mmTo L (k + 1) = ⟨m + 1, if m = 0 ∨ fltB x lo = true then x else lo, if m = 0 ∨ fgtB x hi = true then x else hi⟩ := by rw [HM.out]; unfold stepM; rw [hone]; rfl
        have HS := hide_ hst
        clear hone hst HM
        by_cases hm0 : m = 0
        · subst hm0
          go_wp2
          go_quiet (fail)
          go_wp2
          go_roundw
          case rel => exact ⟨k + 1, by omega, by go_num, by rw [HS.out]; rfl, by rw [HS.out]; rfl, by rw [HS.out]; rfl, _, rfl⟩
          case measure => simp [intOf]; omega
        · have hm1 : ((m : Int) == 0) = false := by rw [beq_eq_false_iff_ne]; omega
          have hm2 : (0 : Int) ≤ (m : Int) ∧ (m : Int) ≤ 1000000 := by omega
          cases hl : fltB x lo <;> cases hh : fgtB x hi
          all_goals
            have HS2 := HS.out
            rw [hl, hh] at HS2
            simp only [hm0, false_or, Bool.false_eq_true, if_true, if_false] at HS2
            have HS3 := hide_ HS2
            unfold fltB at hl
            unfold fgtB at hh
            clear HS2 HS hm0
            go_wp2
            go_quiet (fail)
            go_wp2
            go_roundw
            case rel => exact ⟨k + 1, by omega, by go_num, by rw [HS3.out]; go_num, by rw [HS3.out], by rw [HS3.out], _, rfl⟩
            case measure => simp [intOf]; omega
    · obtain rfl : k = L.length := by omega
      have hge : ¬ L.length < L.length := by omega
      go_wp2
      exact bodyPost_ret (results_tmp3 rfl _ _ _) rfl ⟨rfl, _, rfl⟩
def tinyB (x : Nat) : Bool := (FloatKind.f64.format.order x 0 != some .eq) && fgtB x 9232379236109516800 && fltB x 9007199254740992
theorem any_take {L : List Nat} {k : Nat} {pd : Nat → Bool} (hk : k < L.length) : (L.take (k + 1)).any pd = ((L.take k).any pd || pd (L.getD k 0)) := by
  rw [List.take_succ_eq_append_getElem hk, List.any_append, List.getD_eq_getElem?_getD, List.getElem?_eq_getElem hk]
  simp
theorem any_of {L : List Nat} {k : Nat} {pd : Nat → Bool} (hk : k < L.length) (h : pd (L.getD k 0) = true) : L.any pd = true :=
  List.any_eq_true.2 ⟨_, getD_mem hk, h⟩
set_option maxHeartbeats 1600000 in
theorem tiny_law (p : Option Addr) (n c : Nat) (L : List Nat) (w : World) (hn : n = L.length) (hp : FL w p L) (hs : n ≤ 1000000) :
    Calls Try.prog 46 #[.slice p n c] w fun e w' => e = .returned (.bool (L.any tinyB)) ∧ w = w' := by
  subst hn
  have HP := hide_ hp
  clear hp
  go_enter Try.func46, Try.ntmps46
  go_wp2
  go_loop [3] (fun i => ∃ k : Nat, k ≤ L.length ∧ i = .int .i64 k ∧ (L.take k).any tinyB = false) (fun i => L.length - (intOf i).toNat)
  case atStart => exact ⟨0, by omega, rfl, by simp⟩
  case round =>
    obtain ⟨k, hk, rfl, ht⟩ := hrel
    by_cases hlt : k < L.length
    · obtain ⟨g, o, rfl, hg, hc⟩ := HP.out.some_ (by omega)
      have c0 := hc k hlt
      have HA := hide_ (any_of (pd := tinyB) hlt)
      have HN := hide_ (any_take (pd := tinyB) hlt)
      have HT := hide_ ht
      have i3 : (k : Int) < (L.length : Int) := by omega
      have i4 : (0 : Int) ≤ (k : Int) := by omega
      clear hc ht
      generalize hx : L.getD k 0 = x at *
      clear hx
      cases ht : tinyB x
      · have HB : Hid ((L.take (k + 1)).any tinyB = false) := hide_ (by rw [HN.out, HT.out, ht]; rfl)
        unfold tinyB fltB fgtB at ht
        generalize hz : (FloatKind.f64.format.order x 0 != some .eq) = z at *
        generalize hgt : (FloatKind.f64.format.order x 9232379236109516800 == some .gt) = gt at *
        generalize hl : (FloatKind.f64.format.order x 9007199254740992 == some .lt) = lt at *
        cases z <;> cases gt <;> cases lt
        all_goals first
          | (exact absurd ht (by decide))
          | (clear ht
             go_wp2
             go_round
             case rel => exact ⟨k + 1, by omega, by go_num, HB.out⟩
             case measure => simp [intOf]; omega)
      · have HB := hide_ (HA.out ht)
        unfold tinyB fltB fgtB at ht
        simp only [Bool.and_eq_true] at ht
        obtain ⟨⟨h1, h2⟩, h3⟩ := ht
        go_wp2
        go_ret
        exact ⟨by rw [HB.out]; rfl, rfl⟩
    · obtain rfl : k = L.length := by omega
      have hge : ¬ L.length < L.length := by omega
      have HT := hide_ ht
      clear ht
      go_wp2
      go_ret
      exact ⟨by have := HT.out; rw [List.take_length] at this; rw [this]; rfl, rfl⟩
end Go.Proofs.Ytlgnidjkilbdfaa
