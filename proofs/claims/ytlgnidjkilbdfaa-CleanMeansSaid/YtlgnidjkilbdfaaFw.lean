/- Chapter 20: Fill. -/
import Derived.Test.YtlgnidjkilbdfaaFi
namespace Go.Proofs.Ytlgnidjkilbdfaa
open Go.RowKit Ieee
set_option linter.unusedVariables false
set_option maxRecDepth 100000
theorem SL.grown {w w' : World} {base : Nat} {v : Value} {S : Rc} (h : SL w base v S) {row : Option Nat} (hg : w.grownBy w' row) (hr : v.ownBlock = none ∨ v.ownBlock ≠ row) : SL w' base v S := h.kept hg hr
theorem SL.alloc {w : World} {base : Nat} {v : Value} {S : Rc} (h : SL w base v S) (o : Obj) : SL (w.alloc o) base v S := World.ownsRow.alloc h o
theorem SL.lt {w : World} {base k : Nat} {v : Value} {S : Rc} (h : SL w base v S) (hk : v.ownBlock = some k) : base ≤ k ∧ k < w.heap.size := World.ownsRow.lt h k hk
set_option maxHeartbeats 3200000 in
theorem fill_any (p : Option Addr) (n c : Nat) (S : Rc) (w : World) (hn : n = S.length) (hp : TL w p S) (h64 : ∀ x ∈ S, x.2 < 2 ^ 64) (hs : n ≤ 1000) :
    Calls Try.prog 47 #[.slice p n c] w fun e w' => (∃ v, e = .returned (.tuple #[v, .int .i64 (fillE S)]) ∧ (fillE S = 0 → SL w' w.heap.size v (fillL S)) ∧ (fillE S ≠ 0 → v = .slice none 0 0)) ∧ Below w.heap.size w w' := by
  have HR := hide_ (fun wx (h : TL wx p S) => rising_any p n c S wx hn h (by omega))
  have HC := hide_ (fun wx (h : TL wx p S) => contains85 p n c S wx hn h h64 (by omega))
  have HP := hide_ hp
  by_cases ha : Asc S
  · by_cases hb : S.any badT = true
    · have he : fillE S = 2 := by unfold fillE; rw [if_pos ha, if_pos hb]
      rw [he]
      have HR2 : Hid (∀ wx, TL wx p S → Calls Try.prog 49 #[.slice p n c] wx fun e w' => e = .returned (.bool true) ∧ ∃ q, w' = wx.drewN q) := hide_ (fun wx h => by have := HR.out wx h; rw [decide_eq_true ha] at this; exact this)
      have HC2 : Hid (∀ wx, TL wx p S → Calls Try.prog 84 #[.slice p n c, .func (.func 85) #[] #[]] wx fun e w' => e = .returned (.bool true) ∧ Below wx.heap.size wx w') := hide_ (fun wx h => by have := HC.out wx h; rw [hb] at this; exact this)
      clear HR HC ha hb he hp hn h64
      go_enter Try.func47, Try.ntmps47
      go_wp2_with (first
        | (go_at_call 49; (with_reducible refine (HR2.out _ HP.out).mono ?_); rintro e w1 ⟨rfl, q, rfl⟩)
        | (go_at_call 84; (with_reducible refine (HC2.out _ (HP.out.below (below_drewN (Below.refl _ _) _))).mono ?_); rintro e w2 ⟨rfl, hb2⟩))
      go_ret2
      exact ⟨⟨_, rfl, fun h => by omega, fun _ => rfl⟩, (below_drewN (Below.refl _ _) q).trans hb2⟩
    · have hb : S.any badT = false := by simpa using hb
      have hrng := rng_of hb h64
      have HR2 : Hid (∀ wx, TL wx p S → Calls Try.prog 49 #[.slice p n c] wx fun e w' => e = .returned (.bool true) ∧ ∃ q, w' = wx.drewN q) := hide_ (fun wx h => by have := HR.out wx h; rw [decide_eq_true ha] at this; exact this)
      have HC2 : Hid (∀ wx, TL wx p S → Calls Try.prog 84 #[.slice p n c, .func (.func 85) #[] #[]] wx fun e w' => e = .returned (.bool false) ∧ Below wx.heap.size wx w') := hide_ (fun wx h => by have := HC.out wx h; rw [hb] at this; exact this)
      have HE : Hid (fillE S = if (fillL S).any (fun x => !oneB x.2) = true then 9 else 0) := hide_ (by unfold fillE; rw [if_pos ha, hb]; simp)
      have HI := hide_ (fun k hk => FInv.to hrng k hk)
      have HSt := hide_ (fun k (h : k < S.length) => fillTo_succ h)
      have HG : Hid (∀ k, k < S.length → (0 ≤ (S.getD k (0, 0)).1 ∧ (S.getD k (0, 0)).1 ≤ 1048576) ∧ (S.getD k (0, 0)).2 < 2 ^ 64) := hide_ (fun k hk => hrng _ (mem_getD hk))
      have HL : Hid (fillL S = fillTo S S.length) := hide_ rfl
      have HQ := hide_ (fun k hk => hp.some_ (k := k) hk)
      obtain ⟨i0, hi, hz0, hz1, hz2⟩ := info_parts info26
      subst hn
      clear HR HC ha hb hp h64 hrng
      go_enter Try.func47, Try.ntmps47
      go_wp2_with (first
        | (go_at_call 49; (with_reducible refine (HR2.out _ HP.out).mono ?_); rintro e w1 ⟨rfl, q, rfl⟩)
        | (go_at_call 84; (with_reducible refine (HC2.out _ (HP.out.below (below_drewN (Below.refl _ _) _))).mono ?_); rintro e w2 ⟨rfl, hb2⟩))
      have hg2 : Grew w.heap.size w w2 := ((Grew.refl w).drewN q).step hb2
      clear hb2 HP
      go_loopw [4, 20] (fun out i wr => ∃ k : Nat, k ≤ S.length ∧ i = .int .i64 k ∧ SL wr w.heap.size out (fillTo S k) ∧ Grew w.heap.size w wr) (fun _ i _ => S.length - (intOf i).toNat)
      case atStart => exact ⟨0, by omega, rfl, by rw [fillTo_zero]; exact World.ownsRow_nil _ _ _ _, hg2⟩
      case round =>
        obtain ⟨k, hk, rfl, hown, hgr⟩ := hrel
        have hI := HI.out k hk
        have hlen := hI.len
        by_cases hlt : k < S.length
        · obtain ⟨g, o, rfl, hg, hc⟩ := HQ.out _ hlt
          obtain ⟨c0, c1⟩ := hc k hlt
          have hgw : g < wr.heap.size := by have := hgr.2; omega
          have d0 := (hgr.1.cell (p := ⟨g, o + k * 2, none⟩) hg).trans c0
          have d1 := (hgr.1.cell (p := ⟨g, o + k * 2 + 1, none⟩) hg).trans c1
          obtain ⟨hr1, hr2⟩ := HG.out k hlt
          have hst := HSt.out k hlt
          obtain ⟨p', c', rfl⟩ := hown.slice
          have hF := finite_any _ hr2
          generalize hgd : S.getD k (0, 0) = s at *
          obtain ⟨t, h⟩ := s
          simp only at hr1 hr2 d0 d1 hF
          have HD := hide_ hI
          generalize hoo : fillTo S k = oo at *
          cases hone : oneB h
          · have hs1 : stepF oo (t, h) = oo := if_neg (by rw [hone]; simp)
            rw [hone] at hF
            have HF := hide_ hF
            have HT := hide_ (hst.trans hs1)
            clear c0 c1 hc hst hs1 hF hone hgd hoo hI hr1 hr2
            go_wp2_with (go_at_call 86; (with_reducible refine (HF.out _).mono ?_); rintro e w4 ⟨rfl, rfl⟩)
            exact ⟨⟨k + 1, hlt, by simp, by rw [HT.out]; exact hown.alloc _, hgr.alloc _⟩, by simp [intOf]; omega⟩
          · rw [hone] at hF
            have HF := hide_ hF
            have HB := hide_ (fun (h0 : oo ≠ []) => (hI.last h0))
            have HRG := hide_ hI.rng
            have HT := hide_ hst
            have HO := hide_ hone
            have HRT := hide_ hr1
            clear c0 c1 hc hst hF hone hgd hoo hI hr1 hr2
            rcases Nat.eq_zero_or_pos oo.length with h0 | h0
            · obtain rfl := List.eq_nil_of_length_eq_zero h0
              have hown' : SL wr w.heap.size (.slice p' 0 c') [] := hown
              rw [h0]
              clear hown hlen h0
              have hkb : (0 + 1) * 16 ≤ 140737488355328 := by omega
              have hgA := hgr.alloc (.cells #[.int .i64 t, .float .f64 h] 26)
              have hB := hgA.2
              have hoA : World.ownsRow (wr.alloc (.cells #[.int .i64 t, .float .f64 h] 26)) w.heap.size 26 2 (.slice p' 0 c') 0 [] := hown'.alloc (.cells #[.int .i64 t, .float .f64 h] 26)
              go_wp2_with (first
                | (go_at_call 86; (with_reducible refine (HF.out _).mono ?_); rintro e w4 ⟨rfl, rfl⟩)
                | (at_builtin; go_must (refine wpList_push2 rfl _ _ 23 rfl w.heap.size 26 i0 (.agg #[.int .i64 0, .float .f64 0]) 2 16 Try.underlying23 hi hz0 hz1 hz2 rfl (by decide) (by decide) _ 0 _ rfl (hoA.alloc _) (wr.heap.size + 1) #[.int .i64 t, .float .f64 h] 26 1 1 rfl (heap_at1 _ _ _) rfl (by kernel_rfl) hkb (hgA.alloc _).2 ?_; intro v' w3 ho3 hg3 hf3 hn3)))
              have hs1 : stepF [] (t, h) = [(t, h)] := by unfold stepF; rw [if_pos HO.out]; rfl
              exact ⟨⟨k + 1, hlt, by simp, by rw [HT.out, hs1]; exact ho3, own_grew (hgA.alloc _) (hoA.alloc (.cells #[.int .i64 t, .float .f64 h] 26)) hg3⟩, by simp [intOf]; omega⟩
            · obtain ⟨m, hm⟩ : ∃ m, oo.length = m + 1 := ⟨oo.length - 1, by omega⟩
              have hne : oo ≠ [] := by rintro rfl; cases h0
              obtain ⟨b1, b2⟩ := HB.out hne
              have hlast : lastT oo = oo.getD m (0, 0) := by unfold lastT; rw [hm]; rfl
              obtain ⟨go, rfl, hgo, e0, e1⟩ := SL.cells hown (k := m) (by omega)
              rw [← hlast] at e0 e1
              have hrl := HRG.out _ b2
              have HBW := hide_ (fun wx => between_any (lastT oo) (t, h) hrl.1 HRT.out b1 HO.out wx)
              have hs1 : stepF oo (t, h) = (oo ++ putIn (lastT oo) (t, h)) ++ [(t, h)] := by unfold stepF; rw [if_pos HO.out, if_neg hne]
              have HS1 := hide_ hs1
              have hpl := putIn_len (lastT oo) (t, h)
              generalize putIn (lastT oo) (t, h) = M at *
              generalize lastT oo = la at *
              obtain ⟨tl, hl⟩ := la
              simp only at e0 e1 HBW
              have hkb : ((oo ++ M).length + 1) * 16 ≤ 140737488355328 := by rw [List.length_append]; omega
              have hnm : oo.length + M.length ≤ 1000000 := by omega
              have HM := hide_ hm
              have i1 : ((oo.length : Nat) : Int) - 1 = (m : Int) := by omega
              have i2 : (0 : Int) < ((oo.length : Nat) : Int) := by omega
              have i3 : (0 : Int) ≤ (m : Int) := by omega
              have i4 : (m : Int) < ((oo.length : Nat) : Int) := by omega
              have i5 : ((oo.length : Nat) : Int) ≤ 10000 := by omega
              have i6 : m < oo.length := by omega
              have i7 : IntKind.i64.wrap (m : Int) = (m : Int) := IntWalk.i64_in _ (by omega)
              have hgA := hgr.alloc (.cells #[.int .i64 t, .float .f64 h] 26)
              have hoA := hown.alloc (.cells #[.int .i64 t, .float .f64 h] 26)
              have eA0 := cell_past (o := .cells #[.int .i64 t, .float .f64 h] 26) e0
              have eA1 := cell_past (o := .cells #[.int .i64 t, .float .f64 h] 26) e1
              have hblk := heap_alloc_last wr (.cells #[.int .i64 t, .float .f64 h] 26)
              have hszA : wr.heap.size < (wr.alloc (.cells #[.int .i64 t, .float .f64 h] 26)).heap.size := by simp
              have HBK := hide_ hblk
              have HSA := hide_ hoA
              clear hown hs1 hlast b1 b2 hne hm hlen h0 hrl HB hpl hoA hblk
              go_wp2_with (first
                | (go_at_call 86; (with_reducible refine (HF.out _).mono ?_); rintro e w4 ⟨rfl, rfl⟩))
              have tok1 : True := trivial
              have tok2 : True := trivial
              go_region_law (first
                | (have _t := tok1; refine step_in rfl ?_; go_simp; go_at_call 87; go_must (
                    (with_reducible refine (HBW.out _).mono ?_)
                    rintro e w4 ⟨vM, rfl, hM4, hb4⟩
                    have hbA : Below (wr.alloc (.cells #[.int .i64 t, .float .f64 h] 26)).heap.size (wr.alloc (.cells #[.int .i64 t, .float .f64 h] 26)) w4 := ⟨hb4.os, hb4.tape, hb4.output, hb4.size, hb4.block⟩
                    have ho4 := HSA.out.below hbA
                    have hg4 := hgA.step hbA
                    have hbk4 := (hbA.block wr.heap.size hszA).trans HBK.out
                    have hsz4 : wr.heap.size < w4.heap.size := lt_of_heap hbk4
                    obtain ⟨v5, w5, hr5, ho5, hg5⟩ := app_row (ty := 23) hi hz0 hz1 hz2 ho4 hg4.2 hM4 hnm
                    have HR5 := hide_ hr5
                    have HO4 := hide_ ho4
                    have HBK4 := hide_ hbk4
                    clear hr5 ho4 hbk4 hM4 tok1))
                | (have _t := tok2; go_must (
                    refine step_app rfl _ _ 23 rfl HR5.out ?_
                    have hgr5 := own_grew hg4 HO4.out hg5
                    have hbk5 := (hg5.block wr.heap.size hsz4 (by simp [Value.ownBlock]; omega)).trans HBK4.out
                    obtain ⟨r0, r1⟩ := cells_two hbk5
                    clear tok2)))
              all_goals have ho6 : World.ownsRow w5 w.heap.size 26 2 v5 (oo ++ M).length (flat (oo ++ M)) := ho5
              all_goals clear i1 i2 i3 i4 i5 i6 i7 ho5
              all_goals go_wp2_with (at_builtin; go_must (refine wpList_push2 rfl _ _ 23 rfl w.heap.size 26 i0 (.agg #[.int .i64 0, .float .f64 0]) 2 16 Try.underlying23 hi hz0 hz1 hz2 rfl (by decide) (by decide) _ (oo ++ M).length _ rfl (ho6.alloc _) w5.heap.size #[.int .i64 t, .float .f64 h] 26 1 1 rfl (heap_alloc_last _ _) rfl (by kernel_rfl) hkb (hgr5.alloc _).2 ?_; intro v' w6 ho7 hg7 hf7 hn7))
              all_goals exact ⟨⟨k + 1, hlt, by simp, by rw [HT.out, HS1.out]; unfold SL; rw [flat_append, flat_one, List.length_append]; exact ho7, own_grew (hgr5.alloc _) (ho6.alloc (.cells #[.int .i64 t, .float .f64 h] 26)) hg7⟩, by simp [intOf]; omega⟩
        · have hkS : k = S.length := by omega
          rw [hkS, ← HL.out] at hown hI hlen
          obtain ⟨p', c', rfl⟩ := hown.slice
          have hI64 : ∀ x ∈ fillL S, x.2 < 2 ^ 64 := fun x hx => (hI.rng x hx).2
          have hCC := contains88 p' (fillL S).length c' (fillL S) wr rfl hown.tl hI64 (by omega)
          generalize hbad : ((fillL S).any fun x => !oneB x.2) = bad at *
          have HCC := hide_ hCC
          have HSL := hide_ hown
          have hlim : (((fillL S).length : Nat) : Int) ≤ 4000 := by omega
          have hnk : ¬ k < S.length := hlt
          clear hCC hI64 hown hI hkS
          generalize (fillL S).length = fl at *
          cases bad
          · have hE : fillE S = 0 := by rw [HE.out]; rfl
            have HEE := hide_ hE
            clear hE
            go_wp2_with (go_at_call 84; (with_reducible refine (HCC.out).mono ?_); rintro e w7 ⟨rfl, hb7⟩)
            go_ret2
            refine ⟨⟨_, by rw [HEE.out]; rfl, fun _ => SL.below HSL.out hb7, fun h => absurd HEE.out h⟩, (hgr.step hb7).below⟩
          · have hE : fillE S = 9 := by rw [HE.out]; rfl
            have HEE := hide_ hE
            clear hE
            go_wp2_with (go_at_call 84; (with_reducible refine (HCC.out).mono ?_); rintro e w7 ⟨rfl, hb7⟩)
            go_ret2
            refine ⟨⟨_, by rw [HEE.out]; rfl, fun h => absurd (HEE.out.symm.trans h) (by omega), fun _ => rfl⟩, (hgr.step hb7).below⟩
  · have he : fillE S = 2 := by unfold fillE; rw [if_neg ha]
    rw [he]
    have HR2 : Hid (∀ wx, TL wx p S → Calls Try.prog 49 #[.slice p n c] wx fun e w' => e = .returned (.bool false) ∧ ∃ q, w' = wx.drewN q) := hide_ (fun wx h => by have := HR.out wx h; rw [decide_eq_false ha] at this; exact this)
    clear HR HC ha he hp hn h64
    go_enter Try.func47, Try.ntmps47
    go_wp2_with (go_at_call 49; (with_reducible refine (HR2.out _ HP.out).mono ?_); rintro e w1 ⟨rfl, q, rfl⟩)
    go_ret2
    exact ⟨⟨_, rfl, fun h => by omega, fun _ => rfl⟩, below_drewN (Below.refl _ _) q⟩
end Go.Proofs.Ytlgnidjkilbdfaa
