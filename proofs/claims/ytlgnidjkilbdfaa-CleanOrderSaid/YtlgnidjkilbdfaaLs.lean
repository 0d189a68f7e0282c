/- Chapter 20: samples that are lent, copied, compared. -/
import Derived.Test.YtlgnidjkilbdfaaKd
namespace Go.Proofs.Ytlgnidjkilbdfaa
open Go.RowKit Ieee
set_option linter.unusedVariables false
set_option maxRecDepth 100000
theorem TL.news {w : World} {a : Addr} {S : Rc} (h : TL w (some a) S) : ∀ j u, (flat S)[j]? = some u → w.cell? (a.add j) = some u := by
  intro j u hu
  rcases h with rfl | ⟨g, o, h, hg, hc⟩
  · simp [flat] at hu
  · cases h
    have hj : j < (flat S).length := by
      rcases Nat.lt_or_ge j (flat S).length with h | h
      · exact h
      · rw [List.getElem?_eq_none h] at hu; cases hu
    rw [flat_len] at hj
    obtain ⟨f1, f2⟩ := flat_at S (j / 2) (by omega)
    obtain ⟨d1, d2⟩ := hc (j / 2) (by omega)
    rw [Addr.add_lit]
    rcases Nat.mod_two_eq_zero_or_one j with h2 | h2
    · have e : j / 2 * 2 = j := by omega
      rw [e] at f1 d1
      rw [d1]
      rw [f1] at hu
      exact hu
    · have e : j / 2 * 2 + 1 = j := by omega
      have e2 : o + j / 2 * 2 + 1 = o + j := by omega
      rw [e] at f2
      rw [e2] at d2
      rw [d2]
      rw [f2] at hu
      exact hu
/-- CopySamples. -/
theorem copys_any (p : Option Addr) (n c : Nat) (S : Rc) (w : World) (hn : n = S.length) (hp : TL w p S) (hsz : n * 16 ≤ 140737488355328) :
    Calls Try.prog 93 #[.slice p n c] w fun e w' => (∃ v, e = .returned v ∧ SL w' w.heap.size v S) ∧ Below w.heap.size w w' := by
  obtain ⟨i0, hi, hz0, hz1, hz2⟩ := info_parts info26
  have hown : (w.alloc (.cells #[] 26)).ownsRow w.heap.size 26 2 (.slice (some ⟨w.heap.size, 0, none⟩) 0 0) 0 [] := row_lit w w.heap.size 26 2 0 #[] (Nat.le_refl _) rfl (Nat.zero_le _)
  have hrun : ∃ v' w', (Builtin.append_ #[23, 23] 23 #[.slice (some ⟨w.heap.size, 0, none⟩) 0 0, .slice p n c]).run Try.prog (w.alloc (.cells #[] 26)) = .ok v' w' ∧ SL w' w.heap.size v' S ∧ (w.alloc (.cells #[] 26)).grownBy w' (some w.heap.size) := by
    rcases p with _ | a
    · have hL : S = [] := by
        rcases hp with h | ⟨g, o, h, _⟩
        · exact h
        · cases h
      subst hL
      subst hn
      refine ⟨_, _, ?_, hown, ⟨rfl, rfl, rfl, Nat.le_refl _, fun _ _ _ => rfl⟩⟩
      simp [Builtin.append_, run_underlying Try.underlying23, sizeOf, typeInfo, hi, Builtin.lenOf, Builtin.firstCells, storeCells]
    · obtain ⟨v', w', hr, r1, r2, _⟩ := run_append_own (P := Try.prog) (w.alloc (.cells #[] 26)) w.heap.size 23 23 26 i0 (.agg #[.int .i64 0, .float .f64 0]) 2 16 Try.underlying23 hi hz0 hz1 hz2 rfl (by decide) _ 0 [] hown a n c (flat S) (by rw [flat_len, hn]) (fun j u hu => cell_past (hp.news j u hu))
        flat_one' (by unfold maxLen; omega) (by omega) (by simp)
      refine ⟨v', w', hr, ?_, r2⟩
      unfold SL
      rw [← hn]
      simpa using r1
  obtain ⟨v', w', hr, r1, r2⟩ := hrun
  have HR := hide_ hr
  have H1 := hide_ r1
  have H2 := hide_ r2
  clear hr r1 r2 hp hn hown
  go_enter Try.func93, Try.ntmps93
  go_wp2_with (at_builtin; go_must (refine wpList_app rfl _ _ 23 rfl HR.out ?_))
  go_ret
  exact ⟨⟨_, rfl, H1.out⟩, ((Below.refl _ _).alloc (Nat.le_refl _) _).grown H2.out (by simp) (fun k hk => by cases hk; exact Nat.le_refl _)⟩
/-- What stands behind a list of samples that is lent. -/
def spareS : Rc := [(-9, 0), (-9, 4607182418800017408), (-9, 4611686018427387904)]
theorem spares_at : ∀ i : Nat, i < 3 → spareS.getD i (0, 0) = (-9, floatOfInt .f64 (i : Int)) := by decide +kernel
theorem spares_snoc {i : Nat} (h : i < 3) (L : Rc) : (L ++ spareS.take (i + 1)) = (L ++ spareS.take i) ++ [(-9, floatOfInt .f64 (i : Int))] := by
  have hl : spareS.length = 3 := rfl
  rw [take_snoc spareS i (by omega), List.append_assoc, spares_at i h]
set_option maxHeartbeats 1600000 in
theorem lents_any (p : Option Addr) (n c : Nat) (S : Rc) (w : World) (hn : n = S.length) (hp : TL w p S) (hsz : n * 16 ≤ 140737488351232) :
    Calls Try.prog 56 #[.slice p n c] w fun e w' => (∃ v, e = .returned v ∧ SL w' w.heap.size v (S ++ spareS)) ∧ Below w.heap.size w w' := by
  have HC := hide_ (copys_any p n c S w hn hp (by omega))
  have HZ : Hid (S ++ spareS.take 0 = S) := hide_ (by simp)
  have H3 : Hid (S ++ spareS.take 3 = S ++ spareS) := hide_ rfl
  obtain ⟨i0, hi0, hz0, hz1, hz2⟩ := info_parts info26
  have HNL : Hid (∀ i, i ≤ 3 → (S ++ spareS.take i).length = n + i) := hide_ (fun i hi => by
    have hl : spareS.length = 3 := rfl
    rw [List.length_append, List.length_take, hn]; omega)
  clear hp hn
  go_enter Try.func56, Try.ntmps56
  go_wp2_with (go_at_call 93; (with_reducible refine (HC.out).mono ?_); rintro e w1 ⟨⟨v1, rfl, ho1⟩, hb1⟩)
  have hg1 := Grew.of hb1
  clear hb1
  go_loopw [3, 4] (fun u vi wr => ∃ i : Nat, i ≤ 3 ∧ vi = .int .i64 i ∧ SL wr w.heap.size u (S ++ spareS.take i) ∧ Grew w.heap.size w wr) (fun _ vi _ => 3 - (intOf vi).toNat)
  case atStart => exact ⟨0, by omega, rfl, by rw [HZ.out]; exact ho1, hg1⟩
  case round =>
    obtain ⟨i, hi, rfl, hu, hgr⟩ := hrel
    by_cases hlt : i < 3
    · have HS := hide_ (spares_snoc hlt S)
      have hkb : ((S ++ spareS.take i).length + 1) * 16 ≤ 140737488355328 := by rw [HNL.out i hi]; omega
      have i4 : (0 : Int) ≤ (i : Int) := by omega
      have i5 : (i : Int) < 3 := by omega
      have hu2 : World.ownsRow wr w.heap.size 26 2 u3 (S ++ spareS.take i).length (flat (S ++ spareS.take i)) := hu
      generalize hfx : floatOfInt .f64 (i : Int) = x at *
      have hcv := fun wx : World => run_convert_int_float (P := Try.prog) wx 3 24 .i64 .f64 (i : Int) (by kernel_rfl) Try.underlying24
      rw [hfx] at hcv
      clear ho1 hg1 hu hfx
      go_wp2_with (at_builtin; go_must (
        refine wpList_push2 rfl _ _ 23 rfl w.heap.size 26 i0 (.agg #[.int .i64 0, .float .f64 0]) 2 16 Try.underlying23 hi0 hz0 hz1 hz2 rfl (by decide) (by decide) _ (S ++ spareS.take i).length _ rfl (hu2.alloc _) wr.heap.size #[.int .i64 (-9), .float .f64 x] 26 1 1 rfl (heap_alloc_last _ _) rfl (by kernel_rfl) hkb (hgr.alloc _).2 ?_
        intro v' w3 ho3 hg3 hf3 hn3
        have hgA := hgr.alloc (.cells #[.int .i64 (-9), .float .f64 x] 26)
        have hgr3 := own_grew hgA (hu2.alloc (.cells #[.int .i64 (-9), .float .f64 x] 26)) hg3))
      exact ⟨⟨i + 1, hlt, by simp, by rw [HS.out]; unfold SL; rw [flat_append, flat_one, List.length_append]; exact ho3, hgr3⟩, by simp [intOf]; omega⟩
    · have hi3 : i = 3 := by omega
      rw [hi3, H3.out] at hu
      rw [hi3]
      clear ho1 hg1 hlt hi
      go_wp2
      go_ret
      exact ⟨⟨_, rfl, hu⟩, hgr.below⟩
theorem sb_self (b : Nat) (w : World) : Calls Try.prog 38 #[.float .f64 b, .float .f64 b] w fun e w' => e = .returned (.bool true) ∧ w = w' := by
  have h := same_any b b w
  rw [show sameB b b = true by unfold sameB; simp] at h
  exact h
set_option maxHeartbeats 1600000 in
theorem sames_any (p q : Option Addr) (n c d : Nat) (S : Rc) (w : World) (hn : n = S.length) (hp : TL w p S) (hq : TL w q S) (hs : n ≤ 140737488355328) :
    Calls Try.prog 96 #[.slice p n c, .slice q n d] w fun e w' => e = .returned (.bool true) ∧ ∃ k, w' = w.drewN k := by
  subst hn
  have HP := hide_ (fun k hk => hp.some_ (k := k) hk)
  have HQ := hide_ (fun k hk => hq.some_ (k := k) hk)
  clear hp hq
  go_enter Try.func96, Try.ntmps96
  go_wp2
  go_loopw [5] (fun i wr => ∃ k : Nat, k ≤ S.length ∧ i = .int .i64 k ∧ ∃ q, wr = w.drewN q) (fun i _ => S.length - (intOf i).toNat)
  case atStart => exact ⟨0, by omega, rfl, 0, rfl⟩
  case round =>
    obtain ⟨k, hk, rfl, q', rfl⟩ := hrel
    by_cases hlt : k < S.length
    · obtain ⟨g, o, rfl, hg, hc⟩ := HP.out _ hlt
      obtain ⟨g', o', rfl, hg', hc'⟩ := HQ.out _ hlt
      obtain ⟨c1, c2⟩ := hc k hlt
      obtain ⟨d1, d2⟩ := hc' k hlt
      clear hc hc'
      generalize (S.getD k (0, 0)).1 = a at *
      generalize (S.getD k (0, 0)).2 = b at *
      have H := hide_ (sb_self b)
      have i4 : (0 : Int) ≤ (k : Int) := by omega
      have i5 : (k : Int) < (S.length : Int) := by omega
      have hne : (a != a) = false := by simp
      go_wp2
      go_quiet ((go_at_call 38; exact quiet_same_left (H.out _)))
      go_wp2
      go_roundw
      case rel => exact ⟨k + 1, by omega, by go_num, _, rfl⟩
      case measure => simp [intOf]; omega
    · have hge : ¬ k < S.length := hlt
      go_wp2
      go_ret
      exact ⟨rfl, _, rfl⟩
theorem TL.left {w : World} {p : Option Addr} {A B : Rc} (h : TL w p (A ++ B)) : TL w p A := by
  rcases h with h | ⟨g, o, rfl, hg, hc⟩
  · exact .inl (List.append_eq_nil_iff.1 h).1
  · refine .inr ⟨g, o, rfl, hg, fun k hk => ?_⟩
    have h1 := hc k (by rw [List.length_append]; omega)
    rw [List.getD_eq_getElem?_getD, List.getElem?_append_left hk, ← List.getD_eq_getElem?_getD] at h1
    exact h1
/-- KeptSamples: what was lent is as it was. -/
theorem kepts_any (p q : Option Addr) (n c d : Nat) (S : Rc) (w : World) (hn : n = S.length) (hp : TL w p S) (hq : TL w q (S ++ spareS)) (hs : n * 16 ≤ 140737488351232) :
    Calls Try.prog 60 #[.slice q (n + 3) d, .slice p n c] w fun e w' => e = .returned (.bool true) ∧ Below w.heap.size w w' := by
  have HL := hide_ (lents_any p n c S w hn hp hs)
  have hl3 : (S ++ spareS).length = n + 3 := by rw [List.length_append, hn]; rfl
  have HS := hide_ (fun wx q' d' (h1 : TL wx q (S ++ spareS)) (h2 : TL wx q' (S ++ spareS)) => sames_any q q' (n + 3) d d' (S ++ spareS) wx hl3.symm h1 h2 (by omega))
  have HQ := hide_ hq
  have HL3 := hide_ hl3
  clear hp hq hn hl3
  go_enter Try.func60, Try.ntmps60
  go_wp2_with (first
    | (go_at_call 56; go_must (
        (with_reducible refine (HL.out).mono ?_)
        rintro e w1 ⟨⟨v1, rfl, ho1⟩, hb1⟩
        obtain ⟨p1, c1, rfl⟩ := SL.slice ho1
        have F1 := SL.tl ho1
        have F2 := HQ.out.below hb1
        rw [HL3.out]))
    | (go_at_call 96; go_must (
        (with_reducible refine (HS.out _ _ _ F2 F1).mono ?_)
        rintro e w2 ⟨rfl, q2, rfl⟩)))
  go_ret
  exact ⟨rfl, below_drewN hb1 _⟩
end Go.Proofs.Ytlgnidjkilbdfaa
