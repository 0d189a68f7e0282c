/- SecondFits: parted. -/
import Derived.Test.YtcibbnphkpaifaaUf
namespace Go.Proofs.Ytcibbnphkpaifaa
open Go.RowKit
set_option linter.unusedVariables false
set_option maxRecDepth 100000
theorem cmpQ_ne (x y : Rat) : (cmpQ x y != 0) = decide (x ≠ y) := by
  unfold cmpQ
  by_cases h1 : x < y
  · rw [if_pos h1]
    have : x ≠ y := by grind
    simp [this]
  · rw [if_neg h1]
    by_cases h2 : y < x
    · rw [if_pos h2]
      have : x ≠ y := by grind
      simp [this]
    · rw [if_neg h2]
      have : x = y := by grind
      simp [this]
def kindL (top : Bool) (L : List Wt) : List Wt := L.filter fun x => x.top == top
theorem kindL_take {top : Bool} {L : List Wt} {k : Nat} (hk : k < L.length) : kindL top (L.take (k + 1)) = kindL top (L.take k) ++ if (L[k].top == top) = true then [L[k]] else [] := by
  unfold kindL
  have e : L.take (k + 1) = L.take k ++ [L[k]] := by rw [List.take_add_one, List.getElem?_eq_getElem hk]; rfl
  rw [e, List.filter_append]
  cases hb : (L[k].top == top) <;> simp [List.filter, hb]
/-- Have the first and the last of one kind unlike heights? -/
def partB (top : Bool) (L : List Wt) : Bool := match (kindL top L).head?, (kindL top L).getLast? with
  | some x, some y => decide (x.h ≠ y.h)
  | _, _ => false
/-- Where the walk stands. -/
def PInv (top : Bool) (L : List Wt) (k : Nat) (u v : Value) : Prop := (u = .int .i64 (-1) ∧ v = .int .i64 (-1) ∧ kindL top (L.take k) = []) ∨
  (∃ a b : Nat, ∃ x y : Wt, u = .int .i64 a ∧ v = .int .i64 b ∧ Hid (L[a]? = some x) ∧ Hid (L[b]? = some y) ∧ Hid ((kindL top (L.take k)).head? = some x ∧ (kindL top (L.take k)).getLast? = some y) ∧ a < k ∧ b < k)
theorem PInv.skip {top : Bool} {L : List Wt} {k : Nat} {u v : Value} (h : PInv top L k u v) (hk : k < L.length) (hb : (L[k].top == top) = false) : PInv top L (k + 1) u v := by
  have ht := kindL_take (top := top) hk
  rw [hb] at ht
  simp only [Bool.false_eq_true, if_false, List.append_nil] at ht
  rcases h with ⟨h1, h2, h3⟩ | ⟨a, b, x, y, h1, h2, h3, h4, h5, h6, h7⟩
  · exact .inl ⟨h1, h2, by rw [ht]; exact h3⟩
  · exact .inr ⟨a, b, x, y, h1, h2, h3, h4, by rw [ht]; exact h5, by omega, by omega⟩
theorem PInv.first {top : Bool} {L : List Wt} {k : Nat} (h : kindL top (L.take k) = []) (hk : k < L.length) (hb : (L[k].top == top) = true) : PInv top L (k + 1) (.int .i64 k) (.int .i64 k) := by
  have ht := kindL_take (top := top) hk
  rw [hb, h] at ht
  simp only [if_true, List.nil_append] at ht
  exact .inr ⟨k, k, L[k], L[k], rfl, rfl, hide_ (List.getElem?_eq_getElem hk), hide_ (List.getElem?_eq_getElem hk), hide_ (by rw [ht]; exact ⟨rfl, rfl⟩), by omega, by omega⟩
theorem PInv.next {top : Bool} {L : List Wt} {k a : Nat} {x y : Wt} (h3 : Hid (L[a]? = some x)) (h5 : Hid ((kindL top (L.take k)).head? = some x ∧ (kindL top (L.take k)).getLast? = some y)) (h6 : a < k) (hk : k < L.length) (hb : (L[k].top == top) = true) : PInv top L (k + 1) (.int .i64 a) (.int .i64 k) := by
  have ht := kindL_take (top := top) hk
  rw [hb] at ht
  simp only [if_true] at ht
  refine .inr ⟨a, k, x, L[k], rfl, rfl, h3, hide_ (List.getElem?_eq_getElem hk), hide_ ?_, by omega, by omega⟩
  rw [ht]
  exact ⟨by rw [List.head?_append, h5.out.1]; rfl, by simp⟩
set_option maxHeartbeats 12800000 in
theorem parted_any (p : Option Addr) (n c : Nat) (top : Bool) (L : List Wt) (w : World) (hn : n = L.length) (hp : WSl w p L) (hl : n ≤ 4096) (hs : Snd L) :
    Calls Try.prog 24 #[.slice p n c, .bool top] w fun e w' => e = .returned (.bool (partB top L)) ∧ Below w.heap.size w w' := by
  have HN := hide_ hn
  have HA := hide_ hp
  have HS := hide_ (fun i (h : i < L.length) => (show WtOK L[i] from ⟨(hs.one h).1, Int.le_trans (hs.one h).2.1 (hs.one h).2.2.1, (hs.one h).2.2.2⟩))
  clear hn hp hs
  go_enter Try.func24, Try.ntmps24
  go_wp2
  go_loopw [5, 6, 7] (fun u v i wr => ∃ k : Nat, k ≤ n ∧ i = .int .i64 k ∧ PInv top L k u v ∧ Below w.heap.size w wr) (fun _ _ i _ => n - (intOf i).toNat)
  case atStart => exact ⟨0, by omega, rfl, .inl ⟨rfl, rfl, rfl⟩, Below.refl _ _⟩
  case round =>
    obtain ⟨k, hk, rfl, hI, hbr⟩ := hrel
    by_cases hlt : k < n
    · have hkL : k < L.length := by rw [← HN.out]; exact hlt
      obtain ⟨ga, oa, rfl⟩ : ∃ g o, p = some ⟨g, o, none⟩ := by
        rcases HA.out with ⟨_, e⟩ | ⟨g, o, e, _⟩
        · rw [e] at hkL; cases hkL
        · exact ⟨g, o, e⟩
      obtain ⟨hga, _, _, _, _, ⟨_, _, a2, _, _, _⟩, _⟩ := HA.out.at hkL
      have b2 := (hbr.cell hga).trans a2
      have hw1 : IntKind.i64.wrap ((k : Int) + 1) = ((k + 1 : Nat) : Int) := by rw [IntWalk.i64_in _ (by omega)]; omega
      have HI := hide_ hI
      have hk2 : k < k + 1 := by omega
      have hk1 : k + 1 ≤ n := by omega
      have HSK := hide_ (fun (hb : (L[k].top == top) = false) => hI.skip hkL hb)
      have HFI := hide_ (fun (h : kindL top (L.take k) = []) (hb : (L[k].top == top) = true) => PInv.first h hkL hb)
      have HNX := hide_ (fun (a b : Nat) (x y : Wt) (h3 : Hid (L[a]? = some x)) (h5 : Hid ((kindL top (L.take k)).head? = some x ∧ (kindL top (L.take k)).getLast? = some y)) (h6 : a < k) (hb : (L[k].top == top) = true) => PInv.next h3 h5 h6 hkL hb)
      clear a2 hI
      generalize L[k].top = tk at *
      generalize hkk : k + 1 = kk at *
      clear hkk
      cases hb : (tk == top)
      · have hb' : (tk != top) = true := by simp [bne, hb]
        have HF := hide_ (HSK.out hb)
        clear HSK HFI HNX
        go_wp2
        go_roundw
        case rel => exact ⟨kk, hk1, rfl, HF.out, hbr⟩
        all_goals (simp [intOf]; omega)
      · have hb' : (tk != top) = false := by simp [bne, hb]
        rcases HI.out with ⟨rfl, rfl, h3⟩ | ⟨a, b, x, y, rfl, rfl, h3, h4, h5, h6, h7⟩
        · have HF := hide_ (HFI.out h3 hb)
          clear HSK HFI HNX h3 HI
          go_wp2
          go_roundw
          case rel => exact ⟨kk, hk1, rfl, HF.out, hbr⟩
          all_goals (simp [intOf]; omega)
        · have HF := hide_ (HNX.out a b x y h3 h5 h6 hb)
          have d1 : decide ((a : Int) < 0) = false := decide_eq_false (by omega)
          clear HSK HFI HNX h3 h4 h5 HI h6 h7
          go_wp2
          go_roundw
          case rel => exact ⟨kk, hk1, rfl, HF.out, hbr⟩
          all_goals (simp [intOf]; omega)
    · obtain rfl : k = n := by omega
      have ht : L.take k = L := List.take_of_length_le (by rw [← HN.out]; omega)
      rcases hI with ⟨rfl, rfl, h3⟩ | ⟨a, b, x, y, rfl, rfl, h3, h4, h5, h6, h7⟩
      · rw [ht] at h3
        have HR := hide_ (show partB top L = false by unfold partB; rw [h3]; rfl)
        clear h3 ht
        go_wp2
        go_quiet (fail)
        go_wp2
        go_ret
        rw [HR.out]
        exact ⟨rfl, below_drewN hbr _⟩
      · rw [ht] at h5
        have HR := hide_ (show partB top L = decide (x.h ≠ y.h) by unfold partB; rw [h5.out.1, h5.out.2])
        obtain ⟨ha, ea⟩ := List.getElem?_eq_some_iff.1 h3.out
        obtain ⟨hb, eb⟩ := List.getElem?_eq_some_iff.1 h4.out
        obtain ⟨ga, oa, rfl⟩ : ∃ g o, p = some ⟨g, o, none⟩ := by
          rcases HA.out with ⟨_, e⟩ | ⟨g, o, e, _⟩
          · rw [e] at ha; cases ha
          · exact ⟨g, o, e⟩
        obtain ⟨p1, c1, q1, d1, t1, x1, v1⟩ := wsl_need HA.out ha (HS.out a ha)
        obtain ⟨p2, c2, q2, d2, t2, x2, v2⟩ := wsl_need HA.out hb (HS.out b hb)
        clear t1 t2
        rw [ea] at x1 v1
        rw [eb] at x2 v2
        have j1 : decide ((0 : Int) ≤ (a : Int)) = true := decide_eq_true (by omega)
        have j2 : decide (0 ≤ a) = true := decide_eq_true (by omega)
        have j3 : (0 : Int) ≤ (a : Int) := by omega
        have j4 : (a : Int) < (k : Int) := by omega
        have j5 : (0 : Int) ≤ (b : Int) := by omega
        have j6 : (b : Int) < (k : Int) := by omega
        have HO := hide_ (fun W (h : Below w.heap.size w W) => order_any _ _ _ _ W (v1.out W h) (v2.out W h))
        have HE := hide_ (cmpQ_ne x.h y.h)
        clear h3 h4 h5 ht ha hb ea eb HS HA hl hk hlt
        generalize x.neg = s1 at *
        generalize y.neg = s2 at *
        generalize x.A.length = n1 at *
        generalize y.A.length = n2 at *
        generalize x.D.length = m1 at *
        generalize y.D.length = m2 at *
        generalize cmpQ x.h y.h = R at *
        have hbd : Below w.heap.size w wr.drew := hbr.drew
        go_upto_region 9 with fail
        go_region_held3 (fun w' => (w'.cell? ⟨ga, oa + a * 6 + 3, none⟩ = some (.bool s1) ∧ w'.cell? ⟨ga, oa + a * 6 + 4, none⟩ = some (.slice p1 n1 c1) ∧ w'.cell? ⟨ga, oa + a * 6 + 5, none⟩ = some (.slice q1 m1 d1)) ∧ (w'.cell? ⟨ga, oa + b * 6 + 3, none⟩ = some (.bool s2) ∧ w'.cell? ⟨ga, oa + b * 6 + 4, none⟩ = some (.slice p2 n2 c2) ∧ w'.cell? ⟨ga, oa + b * 6 + 5, none⟩ = some (.slice q2 m2 d2)))
          (first | (with_reducible exact ⟨x1.out _ (by assumption), x2.out _ (by assumption)⟩) | go_keep)
          ((first
            | (go_at_call 16; go_must (
               (with_reducible refine (HO.out _ hbd).mono ?_)
               rintro e w3 ⟨rfl, hb3⟩
               have hB3 := hbd.trans (hb3.mono hbd.size)))))
        go_wp2
        go_ret
        rw [HR.out, ← HE.out]
        exact ⟨by first | rfl | simp [bne], hB3⟩
end Go.Proofs.Ytcibbnphkpaifaa
