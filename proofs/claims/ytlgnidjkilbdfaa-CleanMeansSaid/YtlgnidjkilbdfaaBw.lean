/- Chapter 20: what is put in between two samples. -/
import Derived.Test.YtlgnidjkilbdfaaNn
import Derived.Test.YtlgnidjkilbdfaaCn
namespace Go.Proofs.Ytlgnidjkilbdfaa
open Go.RowKit Ieee
set_option linter.unusedVariables false
set_option maxRecDepth 100000
/-- How many ticks are missing between two. -/
def gapN (a b : Int × Nat) : Int := b.1 - a.1 - 1
def putTo (a b : Int × Nat) (k : Nat) : Rc := (List.range k).map fun (i : Nat) => (a.1 + 1 + (i : Int), lineB a b (a.1 + 1 + (i : Int)))
def putIn (a b : Int × Nat) : Rc := if gapN a b < 1 ∨ 3 < gapN a b then [] else putTo a b (gapN a b).toNat
theorem putTo_succ (a b : Int × Nat) (k : Nat) : putTo a b (k + 1) = putTo a b k ++ [(a.1 + 1 + (k : Int), lineB a b (a.1 + 1 + (k : Int)))] := by
  unfold putTo
  rw [List.range_succ, List.map_append]
  rfl
theorem putTo_len (a b : Int × Nat) (k : Nat) : (putTo a b k).length = k := by unfold putTo; simp
set_option maxHeartbeats 1600000 in
theorem between_any (a b : Int × Nat) (ha : 0 ≤ a.1 ∧ a.1 ≤ 1048576) (hb : 0 ≤ b.1 ∧ b.1 ≤ 1048576) (h1 : oneB a.2 = true) (h2 : oneB b.2 = true) (w : World) :
    Calls Try.prog 87 #[.agg #[.int .i64 a.1, .float .f64 a.2], .agg #[.int .i64 b.1, .float .f64 b.2]] w fun e w' => ∃ v, e = .returned v ∧ SL w' w.heap.size v (putIn a b) ∧ Below w.heap.size w w' := by
  obtain ⟨i0, hi, hz0, hz1, hz2⟩ := info_parts info26
  by_cases hn : gapN a b < 1 ∨ 3 < gapN a b
  · have hp : putIn a b = [] := if_pos hn
    rw [hp]
    clear hp
    unfold gapN at hn
    generalize a.2 = x at *
    generalize b.2 = y at *
    generalize a.1 = s at *
    generalize b.1 = t at *
    clear h1 h2
    rcases Decidable.em (t - s - 1 < 1) with h | h
    · have hd : decide (t - s - 1 < 1) = true := decide_eq_true h
      clear hn
      go_enter Try.func87, Try.ntmps87
      go_wp2
      go_ret
      exact ⟨_, rfl, ⟨rfl, .inl ⟨rfl, rfl⟩⟩, by (repeat (first | exact Below.refl _ _ | assumption | refine Below.setCell ?_ (by first | assumption | (simp; done) | (simp; omega) | omega) _ | refine below_drewN ?_ _ | refine Below.drew ?_ | refine Below.alloc ?_ (by first | assumption | (simp; done) | (simp; omega) | omega) _))⟩
    · have hd : decide (t - s - 1 < 1) = false := decide_eq_false h
      have hd2 : decide (3 < t - s - 1) = true := decide_eq_true (by omega)
      clear hn
      go_enter Try.func87, Try.ntmps87
      go_wp2
      go_ret
      exact ⟨_, rfl, ⟨rfl, .inl ⟨rfl, rfl⟩⟩, by (repeat (first | exact Below.refl _ _ | assumption | refine Below.setCell ?_ (by first | assumption | (simp; done) | (simp; omega) | omega) _ | refine below_drewN ?_ _ | refine Below.drew ?_ | refine Below.alloc ?_ (by first | assumption | (simp; done) | (simp; omega) | omega) _))⟩
  · have hp : putIn a b = putTo a b (gapN a b).toNat := if_neg hn
    rw [hp]
    obtain ⟨n, hn1⟩ : ∃ n : Nat, gapN a b = n := ⟨(gapN a b).toNat, by omega⟩
    rw [hn1]
    rw [hn1] at hn
    unfold gapN at hn1
    have hk : 1 ≤ n ∧ n ≤ 3 := by omega
    have HL := hide_ (fun (k : Nat) => putTo_succ a b k)
    have HN := hide_ (putTo_len a b)
    have HZ : Hid (putTo a b 0 = []) := hide_ rfl
    have HF := hide_ (less_ok h2 h1)
    have HV : Hid (∀ k : Nat, k < n → ∃ P M R : Nat, lineB a b (a.1 + 1 + (k : Int)) = R ∧
        double.div (floatOfInt .f64 ((k + 1 : Nat) : Int)) (floatOfInt .f64 ((n + 1 : Nat) : Int)) = some P ∧ double.mul (less b.2 a.2) P = some M ∧ double.add a.2 M = some R) := hide_ (fun k hk' => by
      obtain ⟨p1, p2⟩ := part_ok (n + 1) (by omega) (k + 1) (by omega) (by omega)
      obtain ⟨q1, q2, q3⟩ := times_ok (less_ok h2 h1).2.1 p2
      obtain ⟨r1, r2, r3⟩ := plus_ok h1 q2
      refine ⟨_, _, _, rfl, p1, q1, ?_⟩
      rw [r1]
      unfold lineB
      rw [show a.1 + 1 + (k : Int) - a.1 = ((k + 1 : Nat) : Int) by omega, show b.1 - a.1 = ((n + 1 : Nat) : Int) by omega])
    generalize putTo a b = pt at *
    generalize less b.2 a.2 = dl at *
    generalize lineB a b = ln at *
    clear hp h1 h2
    generalize a.2 = x at *
    generalize b.2 = y at *
    generalize a.1 = s at *
    generalize b.1 = t at *
    obtain ⟨e1, _, _⟩ := HF.out
    have f1 := fun wx => run_float_arith (P := Try.prog) wx .sub 24 .f64 y x _ e1
    have hd : decide (t - s - 1 < 1) = false := decide_eq_false (by omega)
    have hd2 : decide (3 < t - s - 1) = false := decide_eq_false (by omega)
    have HE := hide_ hn1
    clear hn hn1 e1
    have hts : t - s - 1 = (n : Int) := HE.out
    go_enter Try.func87, Try.ntmps87
    go_wp2
    clear hts hd hd2
    have c0 := heap_past (o' := .cells #[.int .i64 t, .float .f64 y] 26) (heap_alloc_last w (.cells #[.int .i64 s, .float .f64 x] 26))
    have c1 := heap_at1 w (.cells #[.int .i64 s, .float .f64 x] 26) (.cells #[.int .i64 t, .float .f64 y] 26)
    have hbl := ((Grew.refl w).alloc (.cells #[.int .i64 s, .float .f64 x] 26)).alloc (.cells #[.int .i64 t, .float .f64 y] 26)
    have hsz : w.heap.size + 1 < ((w.alloc (.cells #[.int .i64 s, .float .f64 x] 26)).alloc (.cells #[.int .i64 t, .float .f64 y] 26)).heap.size := by simp
    generalize (w.alloc (.cells #[.int .i64 s, .float .f64 x] 26)).alloc (.cells #[.int .i64 t, .float .f64 y] 26) = w2 at *
    have HC0 := hide_ c0
    have HC1 := hide_ c1
    clear c0 c1
    go_loopw [5, 7] (fun out xi wr => ∃ k : Nat, k ≤ n ∧ xi = .int .i64 (s + 1 + (k : Int)) ∧ wr.ownsRow w2.heap.size 26 2 out (pt k).length (flat (pt k)) ∧ Grew w2.heap.size w2 wr)
      (fun _ xi _ => (t - intOf xi).toNat)
    case atStart => exact ⟨0, by omega, by simp, by rw [HZ.out]; exact World.ownsRow_nil _ _ _ _, Grew.refl _⟩
    case round =>
      obtain ⟨k, hkn, rfl, hown, hgr⟩ := hrel
      have hts := HE.out
      obtain ⟨xi, hxi⟩ : ∃ xi, s + 1 + (k : Int) = xi := ⟨_, rfl⟩
      rw [hxi]
      have d0 := (hgr.1.block w.heap.size (by omega)).trans HC0.out
      have d1 := (hgr.1.block (w.heap.size + 1) hsz).trans HC1.out
      obtain ⟨p0, p1⟩ := cells_two d0
      obtain ⟨p2, p3⟩ := cells_two d1
      clear d0 d1
      by_cases hlt : k < n
      · obtain ⟨P, M, R, v1, v2, v3, v4⟩ := HV.out k hlt
        obtain ⟨j1, hj1⟩ : ∃ j1 : Nat, k + 1 = j1 := ⟨_, rfl⟩
        obtain ⟨n1, hn1⟩ : ∃ n1 : Nat, n + 1 = n1 := ⟨_, rfl⟩
        rw [hj1, hn1] at v2
        have f2 := fun wx => run_float_arith (P := Try.prog) wx .quo 24 .f64 _ _ _ v2
        have f3 := fun wx => run_float_arith (P := Try.prog) wx .mul 24 .f64 _ _ _ v3
        have f4 := fun wx => run_float_arith (P := Try.prog) wx .add 24 .f64 _ _ _ v4
        have HS := HL.out k
        rw [v1, hxi] at HS
        have HS := hide_ HS
        have g1 : xi - s = (j1 : Int) := by omega
        have g2 : t - s = (n1 : Int) := by omega
        have g3 : decide (xi < t) = true := decide_eq_true (by omega)
        have g4 : 0 ≤ xi ∧ xi ≤ 1048576 := by omega
        have hkb : ((pt k).length + 1) * 16 ≤ 140737488355328 := by rw [HN.out]; omega
        have hgr2 := hgr.2
        have HX := hide_ hxi
        have HT := hide_ (show xi < t by omega)
        have HK := hide_ (show k + 1 ≤ n from hlt)
        clear v1 v2 v3 v4 hxi hts hkn hj1 hn1
        go_wp2_with (at_builtin; go_must (refine wpList_push rfl _ _ 23 rfl w2.heap.size 26 i0 (.agg #[.int .i64 0, .float .f64 0]) 2 16 Try.underlying23 hi hz0 hz1 hz2 rfl (by decide) (by decide) _ (pt k).length _ rfl hown #[.int .i64 xi, .float .f64 R] 26 1 1 rfl rfl (by kernel_rfl) hkb hgr2 ?_; intro v' w3 ho3 hb3 hg3 hn3))
        go_roundw
        case rel =>
          refine ⟨k + 1, HK.out, ?_, ?_, hgr.more hb3⟩
          · have := HX.out; simp; omega
          · rw [HS.out, flat_append, flat_one, List.length_append]; exact ho3
        case measure => have := HT.out; simp [intOf]; omega
      · have hkn' : k = n := by omega
        have g3 : decide (xi < t) = false := decide_eq_false (by omega)
        rw [hkn'] at hown
        clear hxi hts hkn'
        go_wp2
        go_ret
        exact ⟨_, rfl, ownsRow_base_a hown (by omega), hbl.below.trans (hgr.1.mono (by omega))⟩
end Go.Proofs.Ytlgnidjkilbdfaa
