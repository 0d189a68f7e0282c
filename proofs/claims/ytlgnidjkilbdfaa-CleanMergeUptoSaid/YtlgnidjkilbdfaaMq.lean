/- Chapter 20: CleanMerge, the walk. -/
import Derived.Test.YtlgnidjkilbdfaaMo
namespace Go.Proofs.Ytlgnidjkilbdfaa
open Go.RowKit Ieee
set_option linter.unusedVariables false
set_option maxRecDepth 100000
/-- What was lent, and the whole of it. -/
def Lnt (w : World) (B : Nat) (S : Ls) (k : Nat) (xs ys : List Value) : Prop := ∀ j, j < k → ∃ p c, xs[j]? = some (.slice p (S.getD j []).length c) ∧ ys[j]? = some (.slice p ((S.getD j []).length + 3) c) ∧ w.ownsRow B 26 2 (.slice p ((S.getD j []).length + 3) c) ((S.getD j []).length + 3) (flat (S.getD j [] ++ spareS))
theorem Lnt.below {w w' : World} {B k : Nat} {S : Ls} {xs ys : List Value} (h : Lnt w B S k xs ys) (hb : Below w.heap.size w w') : Lnt w' B S k xs ys := fun j hj => by
  obtain ⟨p, c, h1, h2, h3⟩ := h j hj
  exact ⟨p, c, h1, h2, own_below h3 hb⟩
theorem Lnt.grown {w w' : World} {B b2 m k : Nat} {S : Ls} {xs ys zs : List Value} {u : Value} (h : Lnt w B S k xs ys) (hu : w.ownsRow b2 23 1 u m zs) (hg : w.grownBy w' u.ownBlock) : Lnt w' B S k xs ys := fun j hj => by
  obtain ⟨p, c, h1, h2, h3⟩ := h j hj
  exact ⟨p, c, h1, h2, h3.kept hg (rows_apart h3 hu (by decide))⟩
theorem Lnt.snoc {w : World} {B k : Nat} {S : Ls} {xs ys : List Value} {p : Option Addr} {c : Nat} (h : Lnt w B S k xs ys) (hl : xs.length = k) (hl2 : ys.length = k) (ho : w.ownsRow B 26 2 (.slice p ((S.getD k []).length + 3) c) ((S.getD k []).length + 3) (flat (S.getD k [] ++ spareS))) :
    Lnt w B S (k + 1) (xs ++ [.slice p (S.getD k []).length c]) (ys ++ [.slice p ((S.getD k []).length + 3) c]) := fun j hj => by
  rcases (show j < k ∨ j = k by omega) with h1 | rfl
  · obtain ⟨p', c', e1, e2, e3⟩ := h j h1
    exact ⟨p', c', by rw [List.getElem?_append_left (by omega)]; exact e1, by rw [List.getElem?_append_left (by omega)]; exact e2, e3⟩
  · exact ⟨p, c, by rw [List.getElem?_append_right (by omega), hl]; simp, by rw [List.getElem?_append_right (by omega), hl2]; simp, ho⟩
theorem Lnt.tl {w : World} {B k : Nat} {S : Ls} {xs ys : List Value} (h : Lnt w B S k xs ys) {j : Nat} (hj : j < k) : ∃ p c, xs[j]? = some (.slice p (S.getD j []).length c) ∧ ys[j]? = some (.slice p ((S.getD j []).length + 3) c) ∧ TL w p (S.getD j [] ++ spareS) := by
  obtain ⟨p, c, h1, h2, h3⟩ := h j hj
  have hl : (S.getD j [] ++ spareS).length = (S.getD j []).length + 3 := by rw [List.length_append]; rfl
  refine ⟨p, c, h1, h2, SL.tl (base := B) (c := c) ?_⟩
  unfold SL
  rw [hl]
  exact h3
theorem Lnt.ml {w : World} {B b m c : Nat} {S : Ls} {xs ys : List Value} {p : Option Addr} (h : Lnt w B S S.length xs ys) (hu : w.ownsRow b 23 1 (.slice p m c) m xs) (hm : m = S.length) : ML w p S := by
  subst hm
  rcases Nat.eq_zero_or_pos S.length with h0 | h0
  · exact .inl (List.eq_nil_of_length_eq_zero h0)
  · obtain ⟨g, rfl, _, hg, hc⟩ := row_cells hu h0
    refine .inr ⟨g, 0, rfl, hg, fun k hk => ?_⟩
    obtain ⟨q, d, h1, _, h3⟩ := h.tl hk
    exact ⟨q, d, by rw [Nat.zero_add]; exact hc _ _ h1, h3.left⟩
set_option maxHeartbeats 6400000 in
theorem cmerge_walk (p : Option Addr) (n c : Nat) (S : Ls) (w : World) (hn : n = S.length) (hp : ML w p S) (h64 : LW64 S) (hls : ∀ L ∈ S, L.length ≤ 1048576) (hn0 : n ≤ 1048576) :
    Calls Try.prog 13 #[.slice p n c] w fun e w' => e = .returned (.bool true) ∧ Below w.heap.size w w' := by
  subst hn
  have HL := hide_ lives_any
  by_cases h20 : 20 < S.length
  · have d1 : decide ((20 : Int) < (S.length : Int)) = true := decide_eq_true (by omega)
    go_enter Try.func13, Try.ntmps13
    go_wp2_with (go_at_call 43; (with_reducible refine (HL.out _).mono ?_); rintro e w1 ⟨rfl, hb1⟩)
    go_ret
    exact ⟨rfl, hb1⟩
  · have d1 : decide ((20 : Int) < (S.length : Int)) = false := decide_eq_false (by omega)
    have hnl : (S.length : Int) ≤ 20 := by omega
    have HP := hide_ hp
    have HLS : Hid (∀ k, k < S.length → (S.getD k []).length ≤ 1048576) := hide_ (fun k hk => hls _ (getD_memL hk))
    have HE := hide_ (fun (q : Option Addr) (l d : Nat) (L : Rc) (W : World) (h1 : l = L.length) (h : TL W q L) (h2 : l * 16 ≤ 140737488351232) => lents_any q l d L W h1 h h2)
    have HM := hide_ (fun (q : Option Addr) (d : Nat) (W : World) (h : ML W q S) => merge_any q S.length d S W rfl h h64 (by omega) (fun L hL => by have := hls L hL; omega))
    have HR := hide_ (fun (W : World) (h : ML W p S) => rmerge_any p S.length c S W rfl h h64 (by omega) (fun L hL => by have := hls L hL; omega))
    have HK := hide_ (fun (q q' : Option Addr) (l d d' : Nat) (L : Rc) (W : World) (h1 : l = L.length) (h : TL W q L) (h' : TL W q' (L ++ spareS)) (h2 : l * 16 ≤ 140737488351232) => kepts_any q q' l d d' L W h1 h h' h2)
    obtain ⟨i0, hi0, hz0, hz1, hz2⟩ := info_parts info23m
    have HLSL := hide_ hls
    have HN20 : Hid (S.length ≤ 20) := hide_ (by omega)
    clear hp h64 hls h20 hn0
    go_enter Try.func13, Try.ntmps13
    go_wp2_with (go_at_call 43; (with_reducible refine (HL.out _).mono ?_); rintro e w1 ⟨rfl, hb1⟩; have hg1 := Grew.of hb1)
    clear d1 hb1
    go_loopw [3, 4, 5] (fun u v i wr => ∃ k : Nat, k ≤ S.length ∧ i = .int .i64 k ∧ Hid (∃ xs ys, wr.ownsRow w.heap.size 23 1 u k xs ∧ wr.ownsRow w.heap.size 23 1 v k ys ∧ Apart u v ∧ Lnt wr w.heap.size S k xs ys) ∧ Grew w.heap.size w wr) (fun _ _ i _ => S.length - (intOf i).toNat)
    case atStart => exact ⟨0, by omega, rfl, hide_ ⟨[], [], World.ownsRow_nil _ _ _ _, World.ownsRow_nil _ _ _ _, (fun k hk => by cases hk), fun j hj => by omega⟩, hg1⟩
    case round =>
      obtain ⟨k, hk, rfl, HX, hgr⟩ := hrel
      by_cases hlt : k < S.length
      · obtain ⟨g, o, q, d, rfl, hc0, htl⟩ := HP.out.at_ hgr.1 hlt
        have hls := HLS.out k hlt
        have i4 : (0 : Int) ≤ (k : Int) := by omega
        have i5 : (k : Int) < (S.length : Int) := by omega
        by_cases h60 : 60 < (S.getD k []).length ∧ (S.getD k []).length ≤ 4096
        · have d1 : decide ((60 : Int) < ((S.getD k []).length : Int)) = true := decide_eq_true (by omega)
          have d2 : decide (((S.getD k []).length : Int) ≤ 4096) = true := decide_eq_true (by omega)
          clear htl h60
          generalize (S.getD k []).length = ll at *
          go_wp2
          go_ret
          exact ⟨rfl, hgr.below⟩
        · have hd : decide ((60 : Int) < ((S.getD k []).length : Int)) = false ∨ (decide ((60 : Int) < ((S.getD k []).length : Int)) = true ∧ decide (((S.getD k []).length : Int) ≤ 4096) = false) := by
            rcases Nat.lt_or_ge 60 (S.getD k []).length with h | h
            · exact .inr ⟨decide_eq_true (by omega), decide_eq_false (by omega)⟩
            · exact .inl (decide_eq_false (by omega))
          have HEk := hide_ (HE.out q (S.getD k []).length d (S.getD k []) wr rfl (htl.below hgr.1) (by omega))
          obtain ⟨xs, ys, hu, hv, hap, hln⟩ := HX.out
          have HXL : Hid (xs.length = k) := hide_ (by have := hu.1; simpa using this)
          have HYL : Hid (ys.length = k) := hide_ (by have := hv.1; simpa using this)
          have HLN := hide_ hln
          have HAP := hide_ hap
          have HLT := hide_ hlt
          have hkb : (k + 1) * 24 ≤ 140737488355328 := by omega
          have HSN := hide_ (fun (W : World) (q : Option Addr) (c : Nat) (h1 : Lnt W w.heap.size S k xs ys) h2 => Lnt.snoc (p := q) (c := c) h1 HXL.out HYL.out h2)
          have hs3 : (S.getD k [] ++ spareS).length = (S.getD k []).length + 3 := by rw [List.length_append]; rfl
          have HS3 := hide_ hs3
          obtain ⟨gz, oz, qz, dz, ez, hcz, _⟩ := HP.out.at_ (Below.refl _ _) hlt
          cases ez
          have hgz : g < w.heap.size := by
            rcases HP.out with h | ⟨g', o', e, h, _⟩
            · rw [h] at hlt; cases hlt
            · cases e; exact h
          have HC := hide_ (fun (W : World) (h : Below w.heap.size w W) => (h.cell (p := ⟨g, o + k, none⟩) hgz).trans hcz)
          clear htl hap hln hs3 h60 hcz hgz
          generalize hll : (S.getD k []).length = ll at *
          have tokA : True := trivial
          have tokB : True := trivial
          rcases hd with d1 | ⟨d1, d2⟩
          all_goals go_wp2_with (first
            | (go_at_call 56; go_must (
                (with_reducible refine (HEk.out).mono ?_)
                rintro e w5 ⟨⟨v5, rfl, ho5⟩, hb5⟩
                have hg5 := hgr.step hb5
                have hu5 := own_below hu hb5
                have hv5 := own_below hv hb5
                have HLN5 := hide_ (HLN.out.below hb5)
                obtain ⟨p5, c5, rfl⟩ := SL.slice ho5
                have hcap := row_capm ho5
                rw [HS3.out] at hcap
                rw [HS3.out]
                have HO5 := hide_ (ownsRow_base_a ho5 hgr.2)
                clear ho5 hb5))
            | (at_builtin; have _t := tokA; go_must (
                refine wpList_push2 rfl _ _ 95 rfl w.heap.size 23 i0 (.slice none 0 0) 1 24 Try.underlying95 hi0 hz0 hz1 hz2 rfl (by decide) (by decide) u4 k ys rfl (hv5.alloc _) w5.heap.size #[.slice p5 (ll + 3) c5] 23 1 1 rfl (heap_alloc_last _ _) rfl (by kernel_rfl) hkb (hg5.alloc _).2 ?_
                intro v6 w6 ho6 hg6 hf6 hn6
                have hgr6 := own_grew (hg5.alloc (.cells #[.slice p5 (ll + 3) c5] 23)) (hv5.alloc (.cells #[.slice p5 (ll + 3) c5] 23)) hg6
                have hu6 := HAP.out.kept (hu5.alloc (.cells #[.slice p5 (ll + 3) c5] 23)) hg6
                have HAP6 := hide_ ((HAP.out.symm.fresh hf6 (fun k hk => ((hu5.alloc (.cells #[.slice p5 (ll + 3) c5] 23)).lt k hk).2)).symm)
                have HLN6 := hide_ ((HLN5.out.below (below_alloc w5 (.cells #[.slice p5 (ll + 3) c5] 23))).grown (hv5.alloc (.cells #[.slice p5 (ll + 3) c5] 23)) hg6)
                have HO6 := hide_ ((HO5.out.alloc (.cells #[.slice p5 (ll + 3) c5] 23)).kept hg6 (rows_apart (HO5.out.alloc (.cells #[.slice p5 (ll + 3) c5] 23)) (hv5.alloc (.cells #[.slice p5 (ll + 3) c5] 23)) (by decide)))
                have hc6 := HC.out w6 hgr6.below
                clear tokA hf6 hg6 hn6 hu5 hv5))
            | (at_builtin; have _t := tokB; go_must (
                refine wpList_push2 rfl _ _ 95 rfl w.heap.size 23 i0 (.slice none 0 0) 1 24 Try.underlying95 hi0 hz0 hz1 hz2 rfl (by decide) (by decide) u3 k xs rfl (hu6.alloc _) w6.heap.size #[.slice p5 ll c5] 23 1 1 rfl (heap_alloc_last _ _) rfl (by kernel_rfl) hkb (hgr6.alloc _).2 ?_
                intro v7 w7 ho7 hg7 hf7 hn7
                have hgr7 := own_grew (hgr6.alloc (.cells #[.slice p5 ll c5] 23)) (hu6.alloc (.cells #[.slice p5 ll c5] 23)) hg7
                have hv7 := HAP6.out.symm.kept (ho6.alloc (.cells #[.slice p5 ll c5] 23)) hg7
                have HAP7 := hide_ (HAP6.out.fresh hf7 (fun k hk => ((ho6.alloc (.cells #[.slice p5 ll c5] 23)).lt k hk).2))
                have HLN7 := hide_ ((HLN6.out.below (below_alloc w6 (.cells #[.slice p5 ll c5] 23))).grown (hu6.alloc (.cells #[.slice p5 ll c5] 23)) hg7)
                have HO7 := hide_ ((HO6.out.alloc (.cells #[.slice p5 ll c5] 23)).kept hg7 (rows_apart (HO6.out.alloc (.cells #[.slice p5 ll c5] 23)) (hu6.alloc (.cells #[.slice p5 ll c5] 23)) (by decide)))
                clear tokB hf7 hg7 hn7)))
          all_goals exact ⟨⟨k + 1, HLT.out, by simp, hide_ ⟨_, _, ho7, hv7, HAP7.out, HSN.out _ _ _ HLN7.out (by have h1 := HO7.out; rw [HS3.out] at h1; exact h1)⟩, hgr7⟩, by have := HLT.out; simp [intOf]; omega⟩
      · have hkS : k = S.length := by omega
        subst hkS
        have hge : ¬ S.length < S.length := hlt
        obtain ⟨xs, ys, hu, hv, hap, hln⟩ := HX.out
        obtain ⟨pu, cu, rfl⟩ := row_slice hu
        obtain ⟨pv, cv, rfl⟩ := row_slice hv
        have HMU := hide_ (hln.ml hu rfl)
        have HFC := hide_ (fun h => row_cells hv h)
        have HFT := hide_ (fun j (hj : j < S.length) => hln.tl hj)
        have hO4 := mRes_len S
        have H48 := hide_ (fun (q q' : Option Addr) (d d' : Nat) (W : World) (h : TL W q (mRes S).1) (h' : TL W q' (mRes S).1) => samel_any q q' (mRes S).1.length d d' (mRes S).1 W rfl h h' (by omega))
        have HAO := hide_ (fun (W : World) (bb : Nat) (va vb : Value) (h1 : SL W wr.heap.size va (mRes S).1) (h2 : SL W bb vb (mRes S).1) (h3 : Apart vb va) (h4 : Below wr.heap.size wr W) => apart_ok h1 h2 h3 pu S.length cu S rfl (fun W' h => HMU.out.below (h4.trans h)) h4.size HLSL.out HN20.out hO4 hO4)
        clear hu hv hap hln HX hlt hk HE
        generalize (mRes S).1 = O at *
        generalize (mRes S).2.1 = E at *
        generalize (mRes S).2.2 = A at *
        have hE : (E == E) = true := by simp
        have hA : (A == A) = true := by simp
        have tok1 : True := trivial
        have tok2 : True := trivial
        have tok3 : True := trivial
        have tok4 : True := trivial
        go_wp2_with (first
          | (go_at_call 61; have _t := tok1; go_must (
              (with_reducible refine (HM.out _ _ _ HMU.out).mono ?_)
              rintro e w5 ⟨⟨va, rfl, ho5⟩, hb5⟩
              have hg5 := Grew.of hb5
              have hgA := hg5.alloc (.cells #[.int .i64 E, .int .i64 A] 34)
              have HVa := hide_ (fun k hk => (World.ownsRow.lt ho5 k hk).2)
              clear tok1))
          | (go_at_call 61; have _t := tok2; go_must (
              (with_reducible refine (HM.out _ _ _ (HMU.out.below hgA.below)).mono ?_)
              rintro e w6 ⟨⟨vb, rfl, ho6⟩, hb6⟩
              have hg6 := hgA.step hb6
              have hoa6 := SL.below (SL.alloc ho5 (.cells #[.int .i64 E, .int .i64 A] 34)) hb6
              have HAB : Hid (Apart vb va) := hide_ (fun k hk hk2 => by have h1 := (World.ownsRow.lt ho6 k hk).1; have h2 := HVa.out k hk2; simp at h1; omega)
              have k6 := blk_below hb6
              have hgB := hg6.alloc (.cells #[.int .i64 E, .int .i64 A] 34)
              clear tok2 ho5))
          | (go_at_call 62; go_must (
              (with_reducible refine (HR.out _ (HP.out.below ((hgr.step hgB.below)).below)).mono ?_)
              rintro e w7 ⟨⟨vc, rfl, ho7⟩, hb7⟩
              have hg7 := hgB.step hb7
              have hoa7 := SL.below (SL.alloc hoa6 (.cells #[.int .i64 E, .int .i64 A] 34)) hb7
              have hob7 := SL.below (SL.alloc ho6 (.cells #[.int .i64 E, .int .i64 A] 34)) hb7
              have k7a := (hb7.block _ (lt_of_heap (heap_past (o' := .cells #[.int .i64 E, .int .i64 A] 34) k6))).trans (heap_past (o' := .cells #[.int .i64 E, .int .i64 A] 34) k6)
              have k7b := blk_below hb7
              obtain ⟨a0, a1⟩ := cells_two (heap_past (o' := .cells #[.int .i64 E, .int .i64 A] 34) k7a)
              obtain ⟨b0, b1⟩ := cells_two (heap_past (o' := .cells #[.int .i64 E, .int .i64 A] 34) k7b)
              obtain ⟨pa, ca, rfl⟩ := SL.slice hoa7
              obtain ⟨pb, cb, rfl⟩ := SL.slice hob7
              obtain ⟨pc, cc, rfl⟩ := SL.slice ho7
              have Ta := (SL.tl hoa7).below (below_alloc w7 (.cells #[.int .i64 E, .int .i64 A] 34))
              have Tb := (SL.tl hob7).below (below_alloc w7 (.cells #[.int .i64 E, .int .i64 A] 34))
              have Tc := (SL.tl ho7).below (below_alloc w7 (.cells #[.int .i64 E, .int .i64 A] 34))
              have hg8 := hg7.alloc (.cells #[.int .i64 E, .int .i64 A] 34)
              clear k7a k7b k6 ho6 hoa6))
          | (go_at_call 48; have _t := tok3; go_must (
              (with_reducible refine (H48.out _ _ _ _ _ Ta Tc).mono ?_)
              rintro e w8 ⟨rfl, q8, rfl⟩
              clear tok3))
          | (go_at_call 48; have _t := tok4; go_must (
              (with_reducible refine (H48.out _ _ _ _ _ (Tb.below (below_drewN (Below.refl _ _) q8)) (Tc.below (below_drewN (Below.refl _ _) q8))).mono ?_)
              rintro e w9 ⟨rfl, q9, rfl⟩
              clear tok4)))
        have HoA := hide_ (SL.alloc hoa7 (.cells #[.int .i64 E, .int .i64 A] 34))
        have HoB := hide_ (SL.alloc hob7 (.cells #[.int .i64 E, .int .i64 A] 34))
        have HG8 := hide_ hg8
        clear hg8 hg7 hgB hg6 hgA hg5 hb5 hb6 hb7 Ta Tb Tc ho7 hoa7 hob7 HR HM H48 a0 a1 b0 b1
        generalize w7.alloc (.cells #[.int .i64 E, .int .i64 A] 34) = WA at *
        go_loopw [13] (fun i wr => ∃ k : Nat, k ≤ S.length ∧ i = .int .i64 k ∧ Grew WA.heap.size WA wr) (fun i _ => S.length - (intOf i).toNat)
        case atStart => exact ⟨0, by omega, rfl, by first | exact (Grew.refl WA).drewN _ | exact ((Grew.refl WA).drewN _).drewN _⟩
        case round =>
          obtain ⟨k, hk, rfl, hgr4⟩ := hrel
          have HgW := hide_ (HG8.out.step hgr4.below)
          by_cases hlt : k < S.length
          · obtain ⟨gf, rfl, hgf1, hgf2, hcf⟩ := HFC.out (by omega)
            obtain ⟨q1, c1, _, hq1, ht1⟩ := HFT.out k hlt
            obtain ⟨go, o, q2, d2, rfl, hc2, ht2⟩ := HP.out.at_ (hgr.step HgW.out.below).below hlt
            have e1 := (HgW.out.1.cell (p := ⟨gf, k, none⟩) hgf2).trans (hcf _ _ hq1)
            have HT2 := hide_ (ht2.below (hgr.step HgW.out.below).below)
            have HT1 := hide_ (ht1.below HgW.out.1)
            have HKk := hide_ (HK.out q2 q1 (S.getD k []).length d2 c1 (S.getD k []) _ rfl (HT2.out.below (Below.refl _ _).drew) (HT1.out.below (Below.refl _ _).drew) (by have := HLS.out k hlt; omega))
            have i4 : (0 : Int) ≤ (k : Int) := by omega
            have i5 : (k : Int) < (S.length : Int) := by omega
            have HLT := hide_ hlt
            clear ht1 ht2 hcf hq1
            generalize (S.getD k []).length = ll at *
            go_wp2
            go_region_law (refine step_in rfl ?_; go_simp; go_at_call 60; go_must (
              (with_reducible refine (HKk.out).mono ?_)
              rintro e w20 ⟨rfl, hb20⟩
              have hg20 := hgr4.drew.step hb20))
            all_goals go_wp2
            all_goals exact ⟨⟨k + 1, HLT.out, by simp, hg20⟩, by have := HLT.out; simp [intOf]; omega⟩
          · have hge : ¬ k < S.length := hlt
            have hkk : k = S.length := by omega
            subst hkk
            have HF := hide_ (HAO.out _ _ _ _ (SL.below HoA.out hgr4.below) (SL.below HoB.out hgr4.below) HAB.out HgW.out.below)
            go_wp2_with (go_at_call 63; (with_reducible refine (HF.out).mono ?_); rintro e w9 ⟨rfl, hb9⟩)
            go_ret
            exact ⟨rfl, (hgr.step HgW.out.below).below.trans (hb9.mono hgr.2)⟩
end Go.Proofs.Ytlgnidjkilbdfaa
