/- Chapter 20: the reference's order of heights, the walk. -/
import Derived.Test.YtlgnidjkilbdfaaRo
namespace Go.Proofs.Ytlgnidjkilbdfaa
open Go.RowKit Ieee
set_option linter.unusedVariables false
set_option maxRecDepth 100000
theorem map_set (l : List Nat) (k v : Nat) : (l.map encF).set k (encF v) = (l.set k v).map encF := by rw [List.map_set]
theorem quiet_left0 {P : Program} {f : FuncId} {args : Array Value} {w : World} {n : Nat} {v : Value}
    (h : Calls P f args (w.drewN n) fun e w' => e = .returned v ∧ w.drewN n = w') : Calls P f args (w.drewN n) fun e w'' => e = .returned v ∧ ∃ m, w'' = w.drewN m :=
  h.mono fun _ _ ⟨he, hm⟩ => ⟨he, n, hm.symm⟩
set_option maxHeartbeats 6400000 in
theorem rorder_any (p : Option Addr) (n c : Nat) (L : List Nat) (w : World) (hn : n = L.length) (hp : FL w p L) (hw : W64 L) (hsz : n ≤ 1000000) :
    Calls Try.prog 90 #[.slice p n c] w fun e w' => (∃ q c', e = .returned (.slice q (srt L).length c') ∧ FL w' q (srt L)) ∧ Below w.heap.size w w' := by
  subst hn
  have HP := hide_ hp
  have HW := hide_ hw
  clear hp hw
  obtain ⟨i0, hi0, hz0, hz1, hz2⟩ := info_parts info24
  go_enter Try.func90, Try.ntmps90
  go_wp2
  go_loopw [3, 4] (fun u vi wr => ∃ i : Nat, i ≤ L.length ∧ vi = .int .i64 i ∧ wr.ownsRow w.heap.size 24 1 u (srt (L.take i)).length ((srt (L.take i)).map encF) ∧ Grew w.heap.size w wr) (fun _ vi _ => L.length - (intOf vi).toNat)
  case atStart =>
    have h0 : srt (L.take 0) = [] := List.eq_nil_of_length_eq_zero (by rw [srt_len]; rfl)
    exact ⟨0, by omega, rfl, (by rw [h0]; exact World.ownsRow_nil _ _ _ _), Grew.refl _⟩
  case round =>
    obtain ⟨i, hi, rfl, hu, hgr⟩ := hrel
    by_cases hlt : i < L.length
    · obtain ⟨g, o, rfl, hg, hc⟩ := HP.out.some_ (by omega)
      have hgw : g < wr.heap.size := by have := hgr.2; omega
      have c0 := (hgr.1.cell (p := ⟨g, o + i, none⟩) hg).trans (hc i hlt)
      have HX : Hid (∀ k, oneB (L.getD i 0) = true → k ≤ (srt (L.take i)).length → Bhd (srt (L.take i)) (L.getD i 0) k → (0 < k → rkW ((srt (L.take i)).getD (k - 1) 0) ≤ rkW (L.getD i 0)) → insY (srt (L.take i)) (L.getD i 0) k = srt (L.take (i + 1))) := hide_ (fun k h1 hk hb hl => insY_srt HW.out hlt rfl h1 hk hb hl)
      have HSk := hide_ (fun h => srt_skip HW.out hlt h)
      have hx64 : L.getD i 0 < 2 ^ 64 := HW.out _ (getD_mem hlt)
      have hXok : ∀ k, k < (srt (L.take i)).length → (srt (L.take i)).getD k 0 < 2 ^ 64 ∧ oneB ((srt (L.take i)).getD k 0) = true := srt_ok (fun y hy => HW.out y (List.mem_of_mem_take hy))
      have hXl : (srt (L.take i)).length ≤ 1000000 := by have := srt_le (L.take i); rw [List.length_take] at this; omega
      have i4 : (0 : Int) ≤ (i : Int) := by omega
      have i5 : (i : Int) < (L.length : Int) := by omega
      have HF := hide_ (fun wx => rfin_any (L.getD i 0) wx)
      generalize hS1 : srt (L.take (i + 1)) = S1 at *
      generalize srt (L.take i) = X at *
      generalize L.getD i 0 = x at *
      have HS1 := hide_ hS1
      have HXO := hide_ hXok
      have HX64 := hide_ hx64
      clear hc hS1 hXok hx64
      cases hone : oneB x
      · rw [hone] at HF
        have HE := hide_ (HSk.out hone)
        clear hone
        go_wp2_with (go_at_call 91; (with_reducible refine (HF.out _).mono ?_); rintro e w2 ⟨rfl, q2, rfl⟩)
        exact ⟨⟨i + 1, hlt, by simp, by rw [HS1.out, HE.out]; exact own_below hu (below_drewN (Below.refl _ _) _), hgr.drewN _⟩, by simp [intOf]; omega⟩
      · rw [hone] at HF
        have HO := hide_ hone
        have hkb : (X.length + 1) * 8 ≤ 140737488355328 := by omega
        clear hone
        go_wp2_with (first
          | (go_at_call 91; (with_reducible refine (HF.out _).mono ?_); rintro e w2 ⟨rfl, q2, rfl⟩
             have hu2 := own_below hu (below_drewN (Below.refl wr.heap.size wr) q2)
             have hgr2 := hgr.drewN q2)
          | (at_builtin; go_must (
              refine wpList_push2 rfl _ _ 80 rfl w.heap.size 24 i0 (.float .f64 0) 1 8 Try.underlying80 hi0 hz0 hz1 hz2 rfl (by decide) (by decide) _ X.length _ rfl (hu2.alloc _) wr.heap.size #[.float .f64 x] 24 1 1 rfl (heap_alloc_last _ _) rfl (by kernel_rfl) hkb (hgr2.alloc _).2 ?_
              intro v' w3 ho3 hg3 hf3 hn3
              have hgA := hgr2.alloc (.cells #[.float .f64 x] 24)
              have hgr3 := own_grew hgA (hu2.alloc (.cells #[.float .f64 x] 24)) hg3
              obtain ⟨p3, c3, rfl⟩ := row_slice ho3)))
        obtain ⟨g3, rfl, hB3, hg3l, _⟩ := row_cells ho3 (by omega)
        have hrow : w3.ownsRow w.heap.size 24 1 (.slice (some ⟨g3, 0, none⟩) (X.length + 1) c3) (X.length + 1) ((insY X x X.length).map encF) := by
          rw [insY_end, List.map_append]; exact ho3
        clear hg3 hf3 hn3 hu2 hgr2 hgA ho3 hu hgr hkb
        go_loopw [5] (fun vk wr => ∃ k : Nat, k ≤ X.length ∧ vk = .int .i64 k ∧ wr.ownsRow w.heap.size 24 1 (.slice (some ⟨g3, 0, none⟩) (X.length + 1) c3) (X.length + 1) ((insY X x k).map encF) ∧ Bhd X x k ∧ Grew w.heap.size w wr) (fun vk _ => (intOf vk).toNat)
        case atStart => exact ⟨X.length, Nat.le_refl _, rfl, hrow, fun j hj hl => by omega, hgr3⟩
        case round =>
          obtain ⟨k, hk, rfl, hrw, hbh, hg4⟩ := hrel
          have HBH := hide_ hbh
          rcases Nat.eq_zero_or_pos k with h0 | h0
          · subst h0
            have HY := hide_ (HX.out 0 HO.out (Nat.zero_le _) HBH.out (fun h => by omega))
            clear hbh
            go_wp2
            go_quiet (fail)
            go_wp2
            exact ⟨⟨i + 1, hlt, by simp, by rw [HS1.out, ← HY.out, insY_len (by omega)]; exact own_below hrw (below_drewN (Below.refl _ _) _), hg4.drewN _⟩, by simp [intOf]; omega⟩
          · obtain ⟨j, hj⟩ : ∃ j, k = j + 1 := ⟨k - 1, by omega⟩
            have hj2 : j < X.length := by omega
            obtain ⟨b1, b2⟩ := HXO.out j hj2
            have cx := hrw.cells (g := g3) rfl k (encF x) (by rw [List.getElem?_map, insY_at hk]; rfl)
            have cb := hrw.cells (g := g3) rfl j (encF (X.getD j 0)) (by
              rw [List.getElem?_map, insY_low hk (by omega), List.getElem?_eq_getElem hj2, List.getD_eq_getElem?_getD, List.getElem?_eq_getElem hj2]; rfl)
            rw [Addr.add_lit, Nat.zero_add] at cx cb
            have fx := hrw.frozenAt k
            have fb := hrw.frozenAt j
            have HA := hide_ (ahead_raw x (X.getD j 0) HX64.out b1)
            rw [ahead_rk HX64.out b1 HO.out b2] at HA
            have HR := hide_ hrw
            have HJ := hide_ hj
            have hsw : ((insY X x k).set k (X.getD j 0)).set j x = insY X x j := by rw [hj]; exact insY_swap (by omega)
            have HSW := hide_ hsw
            have i6 : (k : Int) - 1 = (j : Int) := by omega
            have i7 : (0 : Int) ≤ (j : Int) := by omega
            have i8 : (0 : Int) ≤ (k : Int) := by omega
            have i9 : (k : Int) < ((X.length + 1 : Nat) : Int) := by omega
            have i10 : (j : Int) < ((X.length + 1 : Nat) : Int) := by omega
            have i11 : IntKind.i64.wrap (j : Int) = (j : Int) := IntWalk.i64_in _ (by omega)
            have i12 : (0 : Int) < (k : Int) := by omega
            have i13 : 0 < k := h0
            have hjk : (⟨g3, j, none⟩ : Addr) ≠ ⟨g3, k, none⟩ := by intro e; injection e; omega
            have hkj : (⟨g3, k, none⟩ : Addr) ≠ ⟨g3, j, none⟩ := fun e => hjk e.symm
            unfold encF at cx cb
            cases hah : decide (rkW x < rkW (X.getD j 0))
            · rw [hah] at HA
              have hle : rkW (X.getD j 0) ≤ rkW x := by rw [decide_eq_false_iff_not] at hah; omega
              have HY := hide_ (HX.out k HO.out hk HBH.out (fun _ => by rw [HJ.out, Nat.add_sub_cancel]; exact hle))
              generalize X.getD j 0 = b at *
              clear hbh hj hsw hah hle b1 b2 hjk hkj
              go_wp2
              go_quiet ((go_at_call 115; exact quiet_left0 (HA.out _)))
              go_wp2
              exact ⟨⟨i + 1, hlt, by simp, by rw [HS1.out, ← HY.out, insY_len hk]; exact own_below HR.out (below_drewN (Below.refl _ _) _), hg4.drewN _⟩, by simp [intOf]; omega⟩
            · rw [hah] at HA
              have hlt2 : rkW x < rkW (X.getD j 0) := by simpa using hah
              have HB2 : Hid (Bhd X x j) := hide_ (fun j' h1 h2 => by
                rcases Nat.lt_or_ge j j' with h3 | h3
                · exact HBH.out j' (by omega) h2
                · obtain rfl : j' = j := by omega
                  exact hlt2)
              generalize X.getD j 0 = b at *
              clear hbh hj hsw hah hlt2 b1 b2
              go_wp2
              go_quiet ((go_at_call 115; exact quiet_left0 (HA.out _)))
              go_wp2
              go_region
              go_wp2
              have r1 := own_below HR.out (below_drewN (Below.refl wr.heap.size wr) (nq + 1))
              have r2 := (r1.stored k (encF b)).1
              have r3 := (r2.stored j (encF x)).1
              rw [map_set, map_set, HSW.out] at r3
              have hj' : j < k := by have := HJ.out; omega
              exact ⟨⟨j, by omega, rfl, r3, HB2.out, ((hg4.drewN _).setCell hB3 _).setCell hB3 _⟩, by simp [intOf]; omega⟩
    · have hge : ¬ i < L.length := hlt
      have hil : i = L.length := by omega
      rw [hil, List.take_length] at hu
      obtain ⟨p4, c4, rfl⟩ := row_slice hu
      have HU := hide_ (own_fl hu).2
      clear hu hil
      go_wp2
      go_ret
      exact ⟨⟨_, _, rfl, HU.out⟩, hgr.below⟩
end Go.Proofs.Ytlgnidjkilbdfaa
