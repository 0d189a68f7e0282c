/- SecondFits: the walk. -/
import Derived.Test.YtcibbnphkpaifaaUj
namespace Go.Proofs.Ytcibbnphkpaifaa
open Go.RowKit
set_option linter.unusedVariables false
set_option maxRecDepth 100000
theorem rlen4 {w : World} {g : Nat} {b1 b2 b3 b4 : Bool} {p1 q1 p2 q2 p3 q3 p4 q4 : Option Addr} {n1 c1 m1 d1 n2 c2 m2 d2 n3 c3 m3 d3 n4 c4 m4 d4 : Nat} {T : TypeId} (h : w.heap[g]? = some (.cells #[.bool b1, .slice p1 n1 c1, .slice q1 m1 d1, .bool b2, .slice p2 n2 c2, .slice q2 m2 d2, .bool b3, .slice p3 n3 c3, .slice q3 m3 d3, .bool b4, .slice p4 n4 c4, .slice q4 m4 d4] T)) :
    RLen w (some ⟨g, 0, none⟩) [(n1, m1), (n2, m2), (n3, m3), (n4, m4)] := by
  refine .inr ⟨g, 0, rfl, lt_of_heap h, fun i hi => ?_⟩
  have e : i = 0 ∨ i = 1 ∨ i = 2 ∨ i = 3 := by simp at hi; omega
  rcases e with rfl | rfl | rfl | rfl
  · exact ⟨p1, c1, q1, d1, cell_of_row _ _ _ _ _ _ h, cell_of_row _ _ _ _ _ _ h⟩
  · exact ⟨p2, c2, q2, d2, cell_of_row _ _ _ _ _ _ h, cell_of_row _ _ _ _ _ _ h⟩
  · exact ⟨p3, c3, q3, d3, cell_of_row _ _ _ _ _ _ h, cell_of_row _ _ _ _ _ _ h⟩
  · exact ⟨p4, c4, q4, d4, cell_of_row _ _ _ _ _ _ h, cell_of_row _ _ _ _ _ _ h⟩
theorem WSr.dig {w : World} {p : Option Addr} {L : List Wt} (h : WSr w p L) : DigL L := by
  intro x hx
  rcases h with rfl | ⟨g, o, _, _, h⟩
  · cases hx
  · obtain ⟨i, hi, rfl⟩ := List.getElem_of_mem hx
    obtain ⟨_, _, _, _, _, _, _, _, _, h5, h6⟩ := h i hi
    exact ⟨h5, h6⟩
def dLens (d : Df) : List (Nat × Nat) := [(d.x1.A.length, d.x1.D.length), (d.x2.A.length, d.x2.D.length), (d.x3.A.length, d.x3.D.length), (d.x4.A.length, d.x4.D.length)]
theorem told_eq {d : Df} {L : List Wt} {Z : List Ze} (h : Z.map Ze.qw = L.map (tW d)) : Z.map Ze.wt = toldL d L := by
  rw [wt_qw, h]; rfl
/-- Apply where it tells an error. -/
theorem apply_no (p : Option Addr) (n c : Nat) (L : List Wt) (d : Df) (p1 q1 p2 q2 p3 q3 p4 q4 : Option Addr) (c1 d1 c2 d2 c3 d3 c4 d4 : Nat) (w : World) (hn : n = L.length) (hp : WSn w p L) (hl : n ≤ 4096) (hs : Snd L) (hd : DfV w d p1 c1 q1 d1 p2 c2 q2 d2 p3 c3 q3 d3 p4 c4 q4 d4) (hc : ¬ (d.chk = 0 ∧ (appF L d).1 = 0)) :
    ∃ er ea, er ≠ 0 ∧ Hid (∀ W, Below w.heap.size w W → Calls Try.prog 22 #[.slice p n c, .agg #[.int .i64 d.ka, .bool d.x1.neg, .slice p1 d.x1.A.length c1, .slice q1 d.x1.D.length d1, .bool d.x2.neg, .slice p2 d.x2.A.length c2, .slice q2 d.x2.D.length d2, .int .i64 d.kb, .bool d.x3.neg, .slice p3 d.x3.A.length c3, .slice q3 d.x3.D.length d3, .bool d.x4.neg, .slice p4 d.x4.A.length c4, .slice q4 d.x4.D.length d4]] W (ResN W er ea)) := by
  have hd' : ∀ W, Below w.heap.size w W → DfV W d p1 c1 q1 d1 p2 c2 q2 d2 p3 c3 q3 d3 p4 c4 q4 d4 := fun W h => ⟨RG.below hd.1 h, RG.below hd.2.1 h, RG.below hd.2.2.1 h, RG.below hd.2.2.2 h⟩
  by_cases h0 : d.chk = 0
  · have h1 : (appF L d).1 ≠ 0 := fun h => hc ⟨h0, h⟩
    refine ⟨(appF L d).1, (appF L d).2, h1, hide_ fun W h => (apply_wn0 p n c L d p1 q1 p2 q2 p3 q3 p4 q4 c1 d1 c2 d2 c3 d3 c4 d4 W hn (hp.below h) hl hs (hd' W h) h0).mono fun e w' h2 => ⟨?_, h2.2⟩⟩
    rcases h2.1 with ⟨h3, _⟩ | ⟨_, h3⟩
    · exact absurd h3 h1
    · exact h3
  · exact ⟨d.chk, -1, h0, hide_ fun W h => apply_wn1 p n c L d p1 q1 p2 q2 p3 q3 p4 q4 c1 d1 c2 d2 c3 d3 c4 d4 W hn (hp.below h) hl hs (hd' W h) h0⟩
/-- Apply where it tells waters. -/
theorem apply_yes (p : Option Addr) (n c : Nat) (L : List Wt) (d : Df) (p1 q1 p2 q2 p3 q3 p4 q4 : Option Addr) (c1 d1 c2 d2 c3 d3 c4 d4 : Nat) (w : World) (hn : n = L.length) (hp : WSn w p L) (hl : n ≤ 4096) (hs : Snd L) (hd : DfV w d p1 c1 q1 d1 p2 c2 q2 d2 p3 c3 q3 d3 p4 c4 q4 d4) (hc : d.chk = 0) (hf : (appF L d).1 = 0) :
    Calls Try.prog 22 #[.slice p n c, .agg #[.int .i64 d.ka, .bool d.x1.neg, .slice p1 d.x1.A.length c1, .slice q1 d.x1.D.length d1, .bool d.x2.neg, .slice p2 d.x2.A.length c2, .slice q2 d.x2.D.length d2, .int .i64 d.kb, .bool d.x3.neg, .slice p3 d.x3.A.length c3, .slice q3 d.x3.D.length d3, .bool d.x4.neg, .slice p4 d.x4.A.length c4, .slice q4 d.x4.D.length d4]] w fun e w' => (∃ p' c', e = .returned (.tuple #[.slice p' n c', .agg #[.int .i64 0, .int .i64 0]]) ∧ WSl w' p' (toldL d L)) ∧ Below w.heap.size w w' := by
  refine (apply_wn0 p n c L d p1 q1 p2 q2 p3 q3 p4 q4 c1 d1 c2 d2 c3 d3 c4 d4 w hn hp hl hs hd hc).mono fun e w' h2 => ⟨?_, h2.2⟩
  rcases h2.1 with ⟨_, v, Z, rfl, ho, hz⟩ | ⟨h3, _⟩
  · obtain ⟨p', c', rfl⟩ := row_slice ho.1
    have hw := ho.wsl
    have e1 := told_eq hz
    have e2 : Z.length = n := by rw [hn, ← toldL_len d L, ← e1, List.length_map]
    rw [e1] at hw
    rw [e2]
    exact ⟨p', c', rfl, hw⟩
  · exact absurd hf h3
/-- Fit of what was told. -/
theorem fit_no (p q : Option Addr) (n c c' : Nat) (L : List Wt) (d : Df) (w : World) (hn : n = L.length) (hp : WSl w p L) (hq : WSl w q (toldL d L)) (hl : n ≤ 4096) (hs : Snd L) (hs2 : Snd (toldL d L)) (hc : d.chk = 0) (ht : partB true L = true) (hb : partB false L = true) (h0 : ¬ (fitE (pairL true L (toldL d L)) = 0 ∧ fitE (pairL false L (toldL d L)) = 0)) :
    Calls Try.prog 25 #[.slice p n c, .slice q n c'] w fun e w' => e = .returned (.tuple #[.agg #[.int .i64 0, .bool false, .slice none 0 0, .slice none 0 0, .bool false, .slice none 0 0, .slice none 0 0, .int .i64 0, .bool false, .slice none 0 0, .slice none 0 0, .bool false, .slice none 0 0, .slice none 0 0], .agg #[.int .i64 3, .int .i64 (-1)]]) ∧ Below w.heap.size w w' := by
  refine (Fit_ok p q n c c' L (toldL d L) w hn (by rw [toldL_len]; exact hn) hp hq hl hs hs2 (toldL_top d L)).mono fun e w' h => ⟨?_, h.2⟩
  obtain ⟨_, _, _, e1⟩ := fit_told hc ht
  obtain ⟨_, _, _, e2⟩ := fit_told hc hb
  rcases h.1 with (⟨h1, h2⟩ | ⟨_, h1, h2⟩) | ⟨h1, h2, _⟩
  · rw [h2, e1.resolve_left h1]
  · rw [h2, e2.resolve_left h1]
  · exact absurd ⟨h1, h2⟩ h0
theorem fit_yes (p q : Option Addr) (n c c' : Nat) (L : List Wt) (d : Df) (w : World) (hn : n = L.length) (hp : WSl w p L) (hq : WSl w q (toldL d L)) (hl : n ≤ 4096) (hs : Snd L) (hs2 : Snd (toldL d L)) (hc : d.chk = 0) (ht : partB true L = true) (hb : partB false L = true) (h0 : fitE (pairL true L (toldL d L)) = 0 ∧ fitE (pairL false L (toldL d L)) = 0) :
    Calls Try.prog 25 #[.slice p n c, .slice q n c'] w fun e w' => (∃ s1 p1 n1 c1 q1 m1 d1 s2 p2 n2 c2 q2 m2 d2 s3 p3 n3 c3 q3 m3 d3 s4 p4 n4 c4 q4 m4 d4, e = .returned (.tuple #[.agg #[.int .i64 d.ka, .bool s1, .slice p1 n1 c1, .slice q1 m1 d1, .bool s2, .slice p2 n2 c2, .slice q2 m2 d2, .int .i64 d.kb, .bool s3, .slice p3 n3 c3, .slice q3 m3 d3, .bool s4, .slice p4 n4 c4, .slice q4 m4 d4], .agg #[.int .i64 0, .int .i64 0]]) ∧ Hid (RV w' (.agg #[.bool s1, .slice p1 n1 c1, .slice q1 m1 d1]) d.x1.h ∧ RV w' (.agg #[.bool s2, .slice p2 n2 c2, .slice q2 m2 d2]) d.x2.h ∧ RV w' (.agg #[.bool s3, .slice p3 n3 c3, .slice q3 m3 d3]) d.x3.h ∧ RV w' (.agg #[.bool s4, .slice p4 n4 c4, .slice q4 m4 d4]) d.x4.h)) ∧ Below w.heap.size w w' := by
  refine (Fit_ok p q n c c' L (toldL d L) w hn (by rw [toldL_len]; exact hn) hp hq hl hs hs2 (toldL_top d L)).mono fun e w' h => ⟨?_, h.2⟩
  obtain ⟨a1, a2, a3, _⟩ := fit_told hc ht
  obtain ⟨b1, b2, b3, _⟩ := fit_told hc hb
  rcases h.1 with (⟨h1, _⟩ | ⟨_, h1, _⟩) | ⟨_, _, s1, p1, n1, c1, q1, m1, d1, s2, p2, n2, c2, q2, m2, d2, s3, p3, n3, c3, q3, m3, d3, s4, p4, n4, c4, q4, m4, d4, h3, h4, B, ⟨B1, _, _, r1, r2⟩, _, _, B2, _, _, r3, r4⟩
  · exact absurd h0.1 h1
  · exact absurd h0.2 h1
  · rw [a1, b1] at h3
    obtain ⟨f1, f2, f3, f4⟩ := h4.out
    have k1 := r1.rv f1
    have k2 := r2.rv f2
    have k3 := r3.rv f3
    have k4 := r4.rv f4
    rw [a2] at k1
    rw [a3] at k2
    rw [b2] at k3
    rw [b3] at k4
    exact ⟨s1, p1, n1, c1, q1, m1, d1, s2, p2, n2, c2, q2, m2, d2, s3, p3, n3, c3, q3, m3, d3, s4, p4, n4, c4, q4, m4, d4, h3, hide_ ⟨k1, k2, k3, k4⟩⟩
set_option maxHeartbeats 12800000 in
theorem fits_main (p : Option Addr) (n c : Nat) (L : List Wt) (d : Df) (p1 q1 p2 q2 p3 q3 p4 q4 : Option Addr) (c1 d1 c2 d2 c3 d3 c4 d4 : Nat) (w : World) (hn : n = L.length) (h2 : n ≤ 200) (hpr : WSr w p L) (hlo : longW L = false) (hs : Snd L) (hd : DfV w d p1 c1 q1 d1 p2 c2 q2 d2 p3 c3 q3 d3 p4 c4 q4 d4) (hlg : longs (dLens d) = false) :
    Calls Try.prog 5 #[.slice p n c, .agg #[.int .i64 d.ka, .bool d.x1.neg, .slice p1 d.x1.A.length c1, .slice q1 d.x1.D.length d1, .bool d.x2.neg, .slice p2 d.x2.A.length c2, .slice q2 d.x2.D.length d2, .int .i64 d.kb, .bool d.x3.neg, .slice p3 d.x3.A.length c3, .slice q3 d.x3.D.length d3, .bool d.x4.neg, .slice p4 d.x4.A.length c4, .slice q4 d.x4.D.length d4]] w fun e w' => e = .returned (.bool true) ∧ Below w.heap.size w w' := by
  have HA := hide_ (fun W => awake_any W)
  have HL := hide_ (fun W (h : Below w.heap.size w W) => LongWaters_any p n c L W hn (hpr.below h) (by omega))
  rw [hlo] at HL
  have HLG := hide_ (fun g W (h : W.heap[g]? = some (.cells #[.bool d.x1.neg, .slice p1 d.x1.A.length c1, .slice q1 d.x1.D.length d1, .bool d.x2.neg, .slice p2 d.x2.A.length c2, .slice q2 d.x2.D.length d2, .bool d.x3.neg, .slice p3 d.x3.A.length c3, .slice q3 d.x3.D.length d3, .bool d.x4.neg, .slice p4 d.x4.A.length c4, .slice q4 d.x4.D.length d4] 32)) => Long_any (some ⟨g, 0, none⟩) 4 4 (dLens d) W rfl (rlen4 h) (by decide))
  rw [hlg] at HLG
  have HWN := hide_ (fun W (h : Below w.heap.size w W) => (hpr.below h).wsn hlo)
  have HCK := hide_ (fun W (h : Below w.heap.size w W) => check_wn p n c L W hn (HWN.out W h) (by omega) hs)
  have HS1 := hide_ (fun W => small_form 1 1 1 (by decide +kernel) W (by decide) (by decide) (by decide) (by decide) (by decide))
  have HS0 := hide_ (fun W => small_form 0 1 0 (by decide +kernel) W (by decide) (by decide) (by decide) (by decide) (by decide))
  have HNO := hide_ (fun s7 p7 n7 c7 q7 m7 d7 s8 p8 n8 c8 q8 m8 d8 b1 b2 W (h : Below w.heap.size w W) h1 h2 => apply_none p n c L s7 s8 p7 q7 p8 q8 n7 c7 m7 d7 n8 c8 m8 d8 b1 b2 W hn (HWN.out W h) (by omega) hs hpr.dig h1 h2)
  have HSW := hide_ (fun (p' : Option Addr) (c' : Nat) (Z : List Wt) W (h : Below w.heap.size w W) (hz : WSl W p' Z) (h1 : n = Z.length) (h2 : Z.length = L.length) (h3 : Same2 Z L) => ksamews_wn p' p n n c' c Z L W h1 hn h2 hz (HWN.out W h) (by omega) h3)
  have HPT := hide_ (fun top W (h : Below w.heap.size w W) => parted_wn p n c top L W hn (HWN.out W h) (by omega) hs)
  have HDD := hide_ (fun W (h : Below w.heap.size w W) => (show DfV W d p1 c1 q1 d1 p2 c2 q2 d2 p3 c3 q3 d3 p4 c4 q4 d4 from ⟨RG.below hd.1 h, RG.below hd.2.1 h, RG.below hd.2.2.1 h, RG.below hd.2.2.2 h⟩))
  have HX := hide_ (⟨hn, hs, h2⟩ : _ ∧ _ ∧ _)
  have z1 : decide ((200 : Int) < (n : Int)) = false := decide_eq_false (by omega)
  have z2 : ¬ ((200 : Int) < (n : Int)) := by omega
  clear hn h2 hpr hlo hs hd hlg
  have hb0 : Below w.heap.size w (w.alloc (.cells #[.int .i64 d.ka, .bool d.x1.neg, .slice p1 d.x1.A.length c1, .slice q1 d.x1.D.length d1, .bool d.x2.neg, .slice p2 d.x2.A.length c2, .slice q2 d.x2.D.length d2, .int .i64 d.kb, .bool d.x3.neg, .slice p3 d.x3.A.length c3, .slice q3 d.x3.D.length d3, .bool d.x4.neg, .slice p4 d.x4.A.length c4, .slice q4 d.x4.D.length d4] 48)) := below_alloc _ _
  have hr0 := heap_alloc_last w (.cells #[.int .i64 d.ka, .bool d.x1.neg, .slice p1 d.x1.A.length c1, .slice q1 d.x1.D.length d1, .bool d.x2.neg, .slice p2 d.x2.A.length c2, .slice q2 d.x2.D.length d2, .int .i64 d.kb, .bool d.x3.neg, .slice p3 d.x3.A.length c3, .slice q3 d.x3.D.length d3, .bool d.x4.neg, .slice p4 d.x4.A.length c4, .slice q4 d.x4.D.length d4] 48)
  have hl0 := lt_of_heap hr0
  have tok0 : True := trivial
  have tok1 : True := trivial
  go_enter Try.func5, Try.ntmps5
  go_upto_region 8 with (first
    | (go_at_call 11; go_must (
        (with_reducible refine (HA.out _).mono ?_)
        rintro e w1 ⟨rfl, hb1⟩
        have hb01 := hb0.trans (hb1.mono hb0.size)))
    | (go_at_call 12; go_must (
        (with_reducible refine (HL.out _ hb01).mono ?_)
        rintro e w2 ⟨rfl, hb2⟩
        have hb02 := hb01.trans (hb2.mono hb01.size)
        have hb12 := hb1.trans (hb2.mono hb1.size)
        have hr2 := (hb12.block _ hl0).trans hr0
        obtain ⟨⟨e0, e1, e2, e3, e4, e5, e6⟩, e7, e8, e9, e10, e11, e12, e13⟩ := cells_14 hr2
        have hb2a := hb02.alloc hb02.size (.cells #[.bool d.x1.neg, .slice p1 d.x1.A.length c1, .slice q1 d.x1.D.length d1, .bool d.x2.neg, .slice p2 d.x2.A.length c2, .slice q2 d.x2.D.length d2, .bool d.x3.neg, .slice p3 d.x3.A.length c3, .slice q3 d.x3.D.length d3, .bool d.x4.neg, .slice p4 d.x4.A.length c4, .slice q4 d.x4.D.length d4] 32)
        have hr2a := heap_past (o' := (.cells #[.bool d.x1.neg, .slice p1 d.x1.A.length c1, .slice q1 d.x1.D.length d1, .bool d.x2.neg, .slice p2 d.x2.A.length c2, .slice q2 d.x2.D.length d2, .bool d.x3.neg, .slice p3 d.x3.A.length c3, .slice q3 d.x3.D.length d3, .bool d.x4.neg, .slice p4 d.x4.A.length c4, .slice q4 d.x4.D.length d4] 32)) hr2))
    | (go_at_call 19; go_must (
        (with_reducible refine (HLG.out w2.heap.size _ (heap_alloc_last _ _)).mono ?_)
        rintro e w3 ⟨rfl, j3, rfl⟩
        have hb3 := below_drewN hb2a j3
        have hd3 := below_drewN (Below.refl (w2.alloc (.cells #[.bool d.x1.neg, .slice p1 d.x1.A.length c1, .slice q1 d.x1.D.length d1, .bool d.x2.neg, .slice p2 d.x2.A.length c2, .slice q2 d.x2.D.length d2, .bool d.x3.neg, .slice p3 d.x3.A.length c3, .slice q3 d.x3.D.length d3, .bool d.x4.neg, .slice p4 d.x4.A.length c4, .slice q4 d.x4.D.length d4] 32)).heap.size (w2.alloc (.cells #[.bool d.x1.neg, .slice p1 d.x1.A.length c1, .slice q1 d.x1.D.length d1, .bool d.x2.neg, .slice p2 d.x2.A.length c2, .slice q2 d.x2.D.length d2, .bool d.x3.neg, .slice p3 d.x3.A.length c3, .slice q3 d.x3.D.length d3, .bool d.x4.neg, .slice p4 d.x4.A.length c4, .slice q4 d.x4.D.length d4] 32))) j3))
    | (go_at_call 13; go_must (
        (with_reducible refine (HCK.out _ hb3).mono ?_)
        rintro e w4 ⟨rfl, hb4⟩
        have hb04 := hb3.trans (hb4.mono hb3.size)
        have hr4 := ((hd3.trans (hb4.mono hd3.size)).block _ (lt_of_heap hr2a)).trans hr2a
        clear e0 e1 e2 e3 e4 e5 e6 e7 e8 e9 e10 e11 e12 e13))
    | (go_at_call 21; have _t := tok0; go_must (
        (with_reducible refine (HS1.out _).mono ?_)
        rintro e w5 ⟨⟨s7, p7, n7, c7, q7, m7, d7, rfl, ho5, hf5⟩, hb5⟩
        clear tok0))
    | (go_at_call 21; go_must (
        (with_reducible refine (HS0.out _).mono ?_)
        rintro e w6 ⟨⟨s8, p8, n8, c8, q8, m8, d8, rfl, ho6, hf6⟩, hb6⟩
        have hb46 := hb5.trans (hb6.mono hb5.size)))
    | (go_at_call 20; go_must (
        (with_reducible refine (difference_form 0 s7 s8 p7 q7 p8 q8 n7 c7 m7 d7 n8 c8 m8 d8 _).mono ?_)
        rintro e w7 ⟨rfl, hb7⟩
        have hb47 := hb46.trans (hb7.mono hb46.size)
        have hb07 := hb04.trans (hb47.mono hb04.size)
        have hb7a := hb07.alloc hb07.size (.cells #[.int .i64 0, .bool s7, .slice p7 n7 c7, .slice q7 m7 d7, .bool s8, .slice p8 n8 c8, .slice q8 m8 d8] 46)
        have hr7 := heap_past (o' := .cells #[.int .i64 0, .bool s7, .slice p7 n7 c7, .slice q7 m7 d7, .bool s8, .slice p8 n8 c8, .slice q8 m8 d8] 46) ((hb47.block _ (lt_of_heap hr4)).trans hr4)
        have ho5a := (ho5.below (hb6.trans (hb7.mono hb6.size))).below (below_alloc w7 (.cells #[.int .i64 0, .bool s7, .slice p7 n7 c7, .slice q7 m7 d7, .bool s8, .slice p8 n8 c8, .slice q8 m8 d8] 46))
        have ho6a := (ho6.below hb7).below (below_alloc w7 (.cells #[.int .i64 0, .bool s7, .slice p7 n7 c7, .slice q7 m7 d7, .bool s8, .slice p8 n8 c8, .slice q8 m8 d8] 46))
        obtain ⟨f0, f1, f2, f3, f4, f5, f6⟩ := cells_seven (heap_alloc_last w7 (.cells #[.int .i64 0, .bool s7, .slice p7 n7 c7, .slice q7 m7 d7, .bool s8, .slice p8 n8 c8, .slice q8 m8 d8] 46))))
    | (go_at_call 22; go_must (
        (with_reducible refine (HNO.out s7 p7 n7 c7 q7 m7 d7 s8 p8 n8 c8 q8 m8 d8 _ _ _ hb7a ho5a ho6a).mono ?_)
        rintro e w8 ⟨⟨p9, c9, Z, rfl, hz⟩, hb8⟩
        have hb08 := hb7a.trans (hb8.mono hb7a.size)
        have hb8a := hb08.alloc hb08.size (.cells #[.int .i64 0, .int .i64 0] 27)
        have hr8 := heap_past (o' := (.cells #[.int .i64 0, .int .i64 0] 27)) ((hb8.block _ (lt_of_heap hr7)).trans hr7)
        obtain ⟨x0, x1⟩ := cells_two (heap_alloc_last w8 (.cells #[.int .i64 0, .int .i64 0] 27))
        have hz8 := hz.out.1.below (below_alloc w8 (.cells #[.int .i64 0, .int .i64 0] 27))
        clear f0 f1 f2 f3 f4 f5 f6))
    | (go_at_call 23; go_must (
        (with_reducible refine (HSW.out p9 c9 Z _ hb8a hz8 hz.out.2.1 hz.out.2.2.1 hz.out.2.2.2).mono ?_)
        rintro e w10 ⟨rfl, hb10⟩
        have hb010 := hb8a.trans (hb10.mono hb8a.size)
        have hr10 := (hb10.block _ (lt_of_heap hr8)).trans hr8))
    | ((with_reducible apply wpList_store_new); (with_reducible rfl); (with_reducible rfl); rfl; rfl; kernel_rfl; rfl; kernel_rfl) | ((with_reducible apply wpList_store_blk); (with_reducible rfl); (with_reducible rfl); rfl; assumption; rfl; kernel_rfl; rfl; kernel_rfl))
  clear x0 x1 hz8 hb8a hb08 hr8 ho5a ho6a hb7a hr7 hb07 hb04 hr4 hb3 hd3 hb2a hr2a hr2 hb02 hb12 hb01 hb0 hr0 hl0 HA HL HLG HS1 HS0 HNO HSW
  obtain ⟨⟨e0, e1, e2, e3, e4, e5, e6⟩, e7, e8, e9, e10, e11, e12, e13⟩ := cells_14 hr10
  by_cases hyes : d.chk = 0 ∧ (appF L d).1 = 0
  · have HAY := hide_ (apply_yes p n c L d p1 q1 p2 q2 p3 q3 p4 q4 c1 d1 c2 d2 c3 d3 c4 d4 w10 HX.out.1 (HWN.out _ hb010) (by have := HX.out.2.2; omega) HX.out.2.1 (HDD.out _ hb010) hyes.1 hyes.2)
    have HSM := hide_ (appF_snd hyes.2)
    have hnM : n = (toldL d L).length := by rw [toldL_len]; exact HX.out.1
    have HCM := hide_ (fun p' c' W (h : WSl W p' (toldL d L)) => check_wn p' n c' (toldL d L) W hnM (.inr h) (by have := HX.out.2.2; omega) HSM.out)
    clear hnM
    have HCZ := hide_ hyes.1
    clear hyes
    have HP1 := hide_ (fun W h => HPT.out true W h)
    have HP2 := hide_ (fun W h => HPT.out false W h)
    have tok0 : True := trivial
    cases hT : partB true L
    · rw [hT] at HP1
      clear HP2 hT
      go_wp2_with (first
          | (go_at_call 22; go_must (
              (with_reducible refine (HAY.out).mono ?_)
              rintro e w11 ⟨⟨p11, c11, rfl, hw11⟩, hb11⟩
              have hb011 := hb010.trans (hb11.mono hb010.size)
              have hb011a := hb011.alloc hb011.size (.cells #[.int .i64 0, .int .i64 0] 27)
              have hw11a := hw11.below (below_alloc w11 (.cells #[.int .i64 0, .int .i64 0] 27))
              have hr11 := heap_past (o' := (.cells #[.int .i64 0, .int .i64 0] 27)) ((hb11.block _ (lt_of_heap hr10)).trans hr10)
              obtain ⟨x0, x1⟩ := cells_two (heap_alloc_last w11 (.cells #[.int .i64 0, .int .i64 0] 27))
              clear e0 e1 e2 e3 e4 e5 e6 e7 e8 e9 e10 e11 e12 e13))
          | (go_at_call 13; go_must (
              (with_reducible refine (HCM.out p11 c11 _ hw11a).mono ?_)
              rintro e w12 ⟨rfl, hb12⟩
              have hb012 := hb011a.trans (hb12.mono hb011a.size)
              have hw12 := hw11a.below hb12
              have hr12 := (hb12.block _ (lt_of_heap hr11)).trans hr11
              clear x0 x1))
          | (go_at_call 24; have _t := tok0; go_must (
              (with_reducible refine (HP1.out _ hb012).mono ?_)
              rintro e w13 ⟨rfl, hb13⟩
              have hb013 := hb012.trans (hb13.mono hb012.size)
              have hw13 := hw12.below hb13
              have hr13 := (hb13.block _ (lt_of_heap hr12)).trans hr12
              clear tok0))
          | (go_at_call 24; go_must (
              (with_reducible refine (HP2.out _ hb013).mono ?_)
              rintro e w14 ⟨rfl, hb14⟩
              have hb014 := hb013.trans (hb14.mono hb013.size)
              have hw14 := hw13.below hb14
              have hr14 := (hb14.block _ (lt_of_heap hr13)).trans hr13))
          | ((with_reducible apply wpList_store_new); (with_reducible rfl); (with_reducible rfl); rfl; rfl; kernel_rfl; rfl; kernel_rfl) | ((with_reducible apply wpList_store_blk); (with_reducible rfl); (with_reducible rfl); rfl; assumption; rfl; kernel_rfl; rfl; kernel_rfl))
      go_ret
      exact ⟨by simp, hb013⟩
    · cases hB : partB false L
      · rw [hT] at HP1
        rw [hB] at HP2
        clear hT hB
        go_wp2_with (first
          | (go_at_call 22; go_must (
              (with_reducible refine (HAY.out).mono ?_)
              rintro e w11 ⟨⟨p11, c11, rfl, hw11⟩, hb11⟩
              have hb011 := hb010.trans (hb11.mono hb010.size)
              have hb011a := hb011.alloc hb011.size (.cells #[.int .i64 0, .int .i64 0] 27)
              have hw11a := hw11.below (below_alloc w11 (.cells #[.int .i64 0, .int .i64 0] 27))
              have hr11 := heap_past (o' := (.cells #[.int .i64 0, .int .i64 0] 27)) ((hb11.block _ (lt_of_heap hr10)).trans hr10)
              obtain ⟨x0, x1⟩ := cells_two (heap_alloc_last w11 (.cells #[.int .i64 0, .int .i64 0] 27))
              clear e0 e1 e2 e3 e4 e5 e6 e7 e8 e9 e10 e11 e12 e13))
          | (go_at_call 13; go_must (
              (with_reducible refine (HCM.out p11 c11 _ hw11a).mono ?_)
              rintro e w12 ⟨rfl, hb12⟩
              have hb012 := hb011a.trans (hb12.mono hb011a.size)
              have hw12 := hw11a.below hb12
              have hr12 := (hb12.block _ (lt_of_heap hr11)).trans hr11
              clear x0 x1))
          | (go_at_call 24; have _t := tok0; go_must (
              (with_reducible refine (HP1.out _ hb012).mono ?_)
              rintro e w13 ⟨rfl, hb13⟩
              have hb013 := hb012.trans (hb13.mono hb012.size)
              have hw13 := hw12.below hb13
              have hr13 := (hb13.block _ (lt_of_heap hr12)).trans hr12
              clear tok0))
          | (go_at_call 24; go_must (
              (with_reducible refine (HP2.out _ hb013).mono ?_)
              rintro e w14 ⟨rfl, hb14⟩
              have hb014 := hb013.trans (hb14.mono hb013.size)
              have hw14 := hw13.below hb14
              have hr14 := (hb14.block _ (lt_of_heap hr13)).trans hr13))
          | ((with_reducible apply wpList_store_new); (with_reducible rfl); (with_reducible rfl); rfl; rfl; kernel_rfl; rfl; kernel_rfl) | ((with_reducible apply wpList_store_blk); (with_reducible rfl); (with_reducible rfl); rfl; assumption; rfl; kernel_rfl; rfl; kernel_rfl))
        go_ret
        exact ⟨by simp, hb014⟩
      · have HPL := hide_ (fun W (h : Below w.heap.size w W) => (show WSl W p L from (HWN.out W h).resolve_left (fun e => by rw [e] at hT; cases hT)))
        by_cases hE : fitE (pairL true L (toldL d L)) = 0 ∧ fitE (pairL false L (toldL d L)) = 0
        · have HFI := hide_ (fun p' c' W (h : Below w.heap.size w W) (hq : WSl W p' (toldL d L)) => fit_yes p p' n c c' L d W HX.out.1 (HPL.out W h) hq (by have := HX.out.2.2; omega) HX.out.2.1 HSM.out HCZ.out hT hB hE)
          rw [hT] at HP1
          rw [hB] at HP2
          clear hT hB hE
          go_upto_region 18 with (first
            | (go_at_call 22; go_must (
                (with_reducible refine (HAY.out).mono ?_)
                rintro e w11 ⟨⟨p11, c11, rfl, hw11⟩, hb11⟩
                have hb011 := hb010.trans (hb11.mono hb010.size)
                have hb011a := hb011.alloc hb011.size (.cells #[.int .i64 0, .int .i64 0] 27)
                have hw11a := hw11.below (below_alloc w11 (.cells #[.int .i64 0, .int .i64 0] 27))
                have hr11 := heap_past (o' := (.cells #[.int .i64 0, .int .i64 0] 27)) ((hb11.block _ (lt_of_heap hr10)).trans hr10)
                obtain ⟨x0, x1⟩ := cells_two (heap_alloc_last w11 (.cells #[.int .i64 0, .int .i64 0] 27))
                clear e0 e1 e2 e3 e4 e5 e6 e7 e8 e9 e10 e11 e12 e13))
            | (go_at_call 13; go_must (
                (with_reducible refine (HCM.out p11 c11 _ hw11a).mono ?_)
                rintro e w12 ⟨rfl, hb12⟩
                have hb012 := hb011a.trans (hb12.mono hb011a.size)
                have hw12 := hw11a.below hb12
                have hr12 := (hb12.block _ (lt_of_heap hr11)).trans hr11
                clear x0 x1))
            | (go_at_call 24; have _t := tok0; go_must (
                (with_reducible refine (HP1.out _ hb012).mono ?_)
                rintro e w13 ⟨rfl, hb13⟩
                have hb013 := hb012.trans (hb13.mono hb012.size)
                have hw13 := hw12.below hb13
                have hr13 := (hb13.block _ (lt_of_heap hr12)).trans hr12
                clear tok0))
            | (go_at_call 24; go_must (
                (with_reducible refine (HP2.out _ hb013).mono ?_)
                rintro e w14 ⟨rfl, hb14⟩
                have hb014 := hb013.trans (hb14.mono hb013.size)
                have hw14 := hw13.below hb14
                have hr14 := (hb14.block _ (lt_of_heap hr13)).trans hr13))
            | (go_at_call 25; go_must (
                (with_reducible refine (HFI.out p11 c11 _ hb014 hw14).mono ?_)
                rintro e w15 ⟨⟨s5, p5, n5, c5, q5, m5, d5, s6, p6, n6, c6, q6, m6, d6, s7, p7, n7, c7, q7, m7, d7, s8, p8, n8, c8, q8, m8, d8, rfl, hrv⟩, hb15⟩
                have hb015 := hb014.trans (hb15.mono hb014.size)
                have hr15 := (hb15.block _ (lt_of_heap hr14)).trans hr14
                have g11 := heap_past (o' := (.cells #[.int .i64 0, .int .i64 0] 27)) (heap_alloc_last w15 (.cells #[.int .i64 0, .bool false, .slice none 0 0, .slice none 0 0, .bool false, .slice none 0 0, .slice none 0 0, .int .i64 0, .bool false, .slice none 0 0, .slice none 0 0, .bool false, .slice none 0 0, .slice none 0 0] 48))
                have g12 := row_other (cs := #[.int .i64 d.ka, .bool s5, .slice p5 n5 c5, .slice q5 m5 d5, .bool s6, .slice p6 n6 c6, .slice q6 m6 d6, .int .i64 d.kb, .bool s7, .slice p7 n7 c7, .slice q7 m7 d7, .bool s8, .slice p8 n8 c8, .slice q8 m8 d8]) (heap_at1 w15 (.cells #[.int .i64 0, .bool false, .slice none 0 0, .slice none 0 0, .bool false, .slice none 0 0, .slice none 0 0, .int .i64 0, .bool false, .slice none 0 0, .slice none 0 0, .bool false, .slice none 0 0, .slice none 0 0] 48) (.cells #[.int .i64 0, .int .i64 0] 27)) (show w15.heap.size + 1 ≠ w15.heap.size by omega)
                have hbA := ((hb015.alloc hb015.size (.cells #[.int .i64 0, .bool false, .slice none 0 0, .slice none 0 0, .bool false, .slice none 0 0, .slice none 0 0, .int .i64 0, .bool false, .slice none 0 0, .slice none 0 0, .bool false, .slice none 0 0, .slice none 0 0] 48)).alloc (hb015.alloc hb015.size (.cells #[.int .i64 0, .bool false, .slice none 0 0, .slice none 0 0, .bool false, .slice none 0 0, .slice none 0 0, .int .i64 0, .bool false, .slice none 0 0, .slice none 0 0, .bool false, .slice none 0 0, .slice none 0 0] 48)).size (.cells #[.int .i64 0, .int .i64 0] 27))
                have hbB := below_setRow hbA hb015.size #[.int .i64 d.ka, .bool s5, .slice p5 n5 c5, .slice q5 m5 d5, .bool s6, .slice p6 n6 c6, .slice q6 m6 d6, .int .i64 d.kb, .bool s7, .slice p7 n7 c7, .slice q7 m7 d7, .bool s8, .slice p8 n8 c8, .slice q8 m8 d8]
                have hbC := below_setRow hbB (Nat.le_trans hb015.size (Nat.le_succ _)) #[.int .i64 0, .int .i64 0]
                obtain ⟨y0, y1⟩ := cells_two (setRow_heap _ _ _ #[.int .i64 0, .int .i64 0] _ _ g12)
                have q11 := row_other (cs := #[.int .i64 0, .int .i64 0]) (setRow_heap _ _ _ #[.int .i64 d.ka, .bool s5, .slice p5 n5 c5, .slice q5 m5 d5, .bool s6, .slice p6 n6 c6, .slice q6 m6 d6, .int .i64 d.kb, .bool s7, .slice p7 n7 c7, .slice q7 m7 d7, .bool s8, .slice p8 n8 c8, .slice q8 m8 d8] _ _ g11) (show w15.heap.size ≠ w15.heap.size + 1 by omega)
                have hlw := lt_of_heap hr15
                have hAl : Below w15.heap.size w15 (((w15.alloc (.cells #[.int .i64 0, .bool false, .slice none 0 0, .slice none 0 0, .bool false, .slice none 0 0, .slice none 0 0, .int .i64 0, .bool false, .slice none 0 0, .slice none 0 0, .bool false, .slice none 0 0, .slice none 0 0] 48)).alloc (.cells #[.int .i64 0, .int .i64 0] 27)).setRow w15.heap.size #[.int .i64 d.ka, .bool s5, .slice p5 n5 c5, .slice q5 m5 d5, .bool s6, .slice p6 n6 c6, .slice q6 m6 d6, .int .i64 d.kb, .bool s7, .slice p7 n7 c7, .slice q7 m7 d7, .bool s8, .slice p8 n8 c8, .slice q8 m8 d8] |>.setRow (w15.heap.size + 1) #[.int .i64 0, .int .i64 0]) := below_setRow (below_setRow ((below_alloc _ _).alloc (by simp) _) (Nat.le_refl _) _) (by omega) _
                have Q3 := (hAl.block _ hlw).trans hr15
                clear hw11 hw11a hw12 hw13 hw14))
            | ((with_reducible apply wpList_store_new); (with_reducible rfl); (with_reducible rfl); rfl; rfl; kernel_rfl; rfl; kernel_rfl) | ((with_reducible apply wpList_store_blk); (with_reducible rfl); (with_reducible rfl); rfl; assumption; rfl; kernel_rfl; rfl; kernel_rfl))
          have HRV := hide_ (show RV _ (.agg #[.bool s5, .slice p5 n5 c5, .slice q5 m5 d5]) d.x1.h ∧ RV _ (.agg #[.bool s6, .slice p6 n6 c6, .slice q6 m6 d6]) d.x2.h ∧ RV _ (.agg #[.bool s7, .slice p7 n7 c7, .slice q7 m7 d7]) d.x3.h ∧ RV _ (.agg #[.bool s8, .slice p8 n8 c8, .slice q8 m8 d8]) d.x4.h from ⟨hrv.out.1.below hAl, hrv.out.2.1.below hAl, hrv.out.2.2.1.below hAl, hrv.out.2.2.2.below hAl⟩)
          have HDV := hide_ (fun W (h : Below w.heap.size w W) => (show RV W (.agg #[.bool d.x1.neg, .slice p1 d.x1.A.length c1, .slice q1 d.x1.D.length d1]) d.x1.h ∧ RV W (.agg #[.bool d.x2.neg, .slice p2 d.x2.A.length c2, .slice q2 d.x2.D.length d2]) d.x2.h ∧ RV W (.agg #[.bool d.x3.neg, .slice p3 d.x3.A.length c3, .slice q3 d.x3.D.length d3]) d.x3.h ∧ RV W (.agg #[.bool d.x4.neg, .slice p4 d.x4.A.length c4, .slice q4 d.x4.D.length d4]) d.x4.h from
            ⟨(HDD.out W h).1.rv (chk_zero HCZ.out).2.1, (HDD.out W h).2.1.rv (chk_zero HCZ.out).2.2.1, (HDD.out W h).2.2.1.rv (chk_zero HCZ.out).2.2.2.1, (HDD.out W h).2.2.2.rv (chk_zero HCZ.out).2.2.2.2⟩))
          have HSR := hide_ (fun g g' W (h1 : FRs W (some ⟨g, 0, none⟩) [d.x1.h, d.x2.h, d.x3.h, d.x4.h]) (h2 : FRs W (some ⟨g', 0, none⟩) [d.x1.h, d.x2.h, d.x3.h, d.x4.h]) => (show Calls Try.prog 18 #[.slice (some ⟨g, 0, none⟩) 4 4, .slice (some ⟨g', 0, none⟩) 4 4] W fun e w' => e = .returned (.bool true) ∧ Below W.heap.size W w' from by
            have h := ksames_any (some ⟨g, 0, none⟩) (some ⟨g', 0, none⟩) 4 4 4 4 _ _ W rfl rfl h1 h2 (by decide)
            rw [decide_eq_true rfl] at h
            exact h))
          clear hrv hAl hbA hbB hb015 hb014 hb013 hb012 hb011a hb011 hb010 hr10 hr11 hr12 hr13 hr14 hr15 g11 g12 y0 y1 HFI HPL HP1 HP2 HCM HSM HAY HCZ HDD HCK HWN HPT HX
          have HQ := hide_ (⟨q11, Q3⟩ : _ ∧ _)
          have hlq := lt_of_heap q11
          have hlx := lt_of_heap Q3
          clear q11 Q3
          generalize hW : (((w15.alloc (.cells #[.int .i64 0, .bool false, .slice none 0 0, .slice none 0 0, .bool false, .slice none 0 0, .slice none 0 0, .int .i64 0, .bool false, .slice none 0 0, .slice none 0 0, .bool false, .slice none 0 0, .slice none 0 0] 48)).alloc (.cells #[.int .i64 0, .int .i64 0] 27)).setRow w15.heap.size #[.int .i64 d.ka, .bool s5, .slice p5 n5 c5, .slice q5 m5 d5, .bool s6, .slice p6 n6 c6, .slice q6 m6 d6, .int .i64 d.kb, .bool s7, .slice p7 n7 c7, .slice q7 m7 d7, .bool s8, .slice p8 n8 c8, .slice q8 m8 d8] |>.setRow (w15.heap.size + 1) #[.int .i64 0, .int .i64 0]) = W16 at *
          clear hW
          generalize w15.heap.size = g15 at *
          have HBC := hide_ hbC
          have HK := hide_ (fun W (h : Below W16.heap.size W16 W) => (show ((W.cell? ⟨g15, 0, none⟩ = some (.int .i64 d.ka) ∧ W.cell? ⟨g15, 1, none⟩ = some (.bool s5) ∧ W.cell? ⟨g15, 2, none⟩ = some (.slice p5 n5 c5) ∧ W.cell? ⟨g15, 3, none⟩ = some (.slice q5 m5 d5) ∧ W.cell? ⟨g15, 4, none⟩ = some (.bool s6) ∧ W.cell? ⟨g15, 5, none⟩ = some (.slice p6 n6 c6) ∧ W.cell? ⟨g15, 6, none⟩ = some (.slice q6 m6 d6)) ∧ (W.cell? ⟨g15, 7, none⟩ = some (.int .i64 d.kb) ∧ W.cell? ⟨g15, 8, none⟩ = some (.bool s7) ∧ W.cell? ⟨g15, 9, none⟩ = some (.slice p7 n7 c7) ∧ W.cell? ⟨g15, 10, none⟩ = some (.slice q7 m7 d7) ∧ W.cell? ⟨g15, 11, none⟩ = some (.bool s8) ∧ W.cell? ⟨g15, 12, none⟩ = some (.slice p8 n8 c8) ∧ W.cell? ⟨g15, 13, none⟩ = some (.slice q8 m8 d8))) ∧ ((W.cell? ⟨w.heap.size, 0, none⟩ = some (.int .i64 d.ka) ∧ W.cell? ⟨w.heap.size, 1, none⟩ = some (.bool d.x1.neg) ∧ W.cell? ⟨w.heap.size, 2, none⟩ = some (.slice p1 d.x1.A.length c1) ∧ W.cell? ⟨w.heap.size, 3, none⟩ = some (.slice q1 d.x1.D.length d1) ∧ W.cell? ⟨w.heap.size, 4, none⟩ = some (.bool d.x2.neg) ∧ W.cell? ⟨w.heap.size, 5, none⟩ = some (.slice p2 d.x2.A.length c2) ∧ W.cell? ⟨w.heap.size, 6, none⟩ = some (.slice q2 d.x2.D.length d2)) ∧ (W.cell? ⟨w.heap.size, 7, none⟩ = some (.int .i64 d.kb) ∧ W.cell? ⟨w.heap.size, 8, none⟩ = some (.bool d.x3.neg) ∧ W.cell? ⟨w.heap.size, 9, none⟩ = some (.slice p3 d.x3.A.length c3) ∧ W.cell? ⟨w.heap.size, 10, none⟩ = some (.slice q3 d.x3.D.length d3) ∧ W.cell? ⟨w.heap.size, 11, none⟩ = some (.bool d.x4.neg) ∧ W.cell? ⟨w.heap.size, 12, none⟩ = some (.slice p4 d.x4.A.length c4) ∧ W.cell? ⟨w.heap.size, 13, none⟩ = some (.slice q4 d.x4.D.length d4))) from ⟨cells_14 ((h.block _ hlq).trans HQ.out.1), cells_14 ((h.block _ hlx).trans HQ.out.2)⟩))
          clear hbC
          have tok9 : True := trivial
          have hdr : Below W16.heap.size W16 W16.drew := (Below.refl _ _).drew
          go_region_held3 (fun w' => ((w'.cell? ⟨g15, 0, none⟩ = some (.int .i64 d.ka) ∧ w'.cell? ⟨g15, 1, none⟩ = some (.bool s5) ∧ w'.cell? ⟨g15, 2, none⟩ = some (.slice p5 n5 c5) ∧ w'.cell? ⟨g15, 3, none⟩ = some (.slice q5 m5 d5) ∧ w'.cell? ⟨g15, 4, none⟩ = some (.bool s6) ∧ w'.cell? ⟨g15, 5, none⟩ = some (.slice p6 n6 c6) ∧ w'.cell? ⟨g15, 6, none⟩ = some (.slice q6 m6 d6)) ∧ (w'.cell? ⟨g15, 7, none⟩ = some (.int .i64 d.kb) ∧ w'.cell? ⟨g15, 8, none⟩ = some (.bool s7) ∧ w'.cell? ⟨g15, 9, none⟩ = some (.slice p7 n7 c7) ∧ w'.cell? ⟨g15, 10, none⟩ = some (.slice q7 m7 d7) ∧ w'.cell? ⟨g15, 11, none⟩ = some (.bool s8) ∧ w'.cell? ⟨g15, 12, none⟩ = some (.slice p8 n8 c8) ∧ w'.cell? ⟨g15, 13, none⟩ = some (.slice q8 m8 d8))) ∧ ((w'.cell? ⟨w.heap.size, 0, none⟩ = some (.int .i64 d.ka) ∧ w'.cell? ⟨w.heap.size, 1, none⟩ = some (.bool d.x1.neg) ∧ w'.cell? ⟨w.heap.size, 2, none⟩ = some (.slice p1 d.x1.A.length c1) ∧ w'.cell? ⟨w.heap.size, 3, none⟩ = some (.slice q1 d.x1.D.length d1) ∧ w'.cell? ⟨w.heap.size, 4, none⟩ = some (.bool d.x2.neg) ∧ w'.cell? ⟨w.heap.size, 5, none⟩ = some (.slice p2 d.x2.A.length c2) ∧ w'.cell? ⟨w.heap.size, 6, none⟩ = some (.slice q2 d.x2.D.length d2)) ∧ (w'.cell? ⟨w.heap.size, 7, none⟩ = some (.int .i64 d.kb) ∧ w'.cell? ⟨w.heap.size, 8, none⟩ = some (.bool d.x3.neg) ∧ w'.cell? ⟨w.heap.size, 9, none⟩ = some (.slice p3 d.x3.A.length c3) ∧ w'.cell? ⟨w.heap.size, 10, none⟩ = some (.slice q3 d.x3.D.length d3) ∧ w'.cell? ⟨w.heap.size, 11, none⟩ = some (.bool d.x4.neg) ∧ w'.cell? ⟨w.heap.size, 12, none⟩ = some (.slice p4 d.x4.A.length c4) ∧ w'.cell? ⟨w.heap.size, 13, none⟩ = some (.slice q4 d.x4.D.length d4))))
            (first | (with_reducible exact HK.out _ (by assumption)) | go_keep)
            ((first
              | (go_at_call 26; have _t := tok9; go_must (
                 (with_reducible refine (fractions_any d.ka d.kb s5 s6 s7 s8 p5 q5 p6 q6 p7 q7 p8 q8 n5 c5 m5 d5 n6 c6 m6 d6 n7 c7 m7 d7 n8 c8 m8 d8 d.x1.h d.x2.h d.x3.h d.x4.h _ (HRV.out.1.below hdr) (HRV.out.2.1.below hdr) (HRV.out.2.2.1.below hdr) (HRV.out.2.2.2.below hdr)).mono ?_)
                 rintro e w17 ⟨⟨g17, rfl, hf17⟩, hb17⟩
                 have hB17 := hdr.trans (hb17.mono hdr.size)
                 have hC17 := HBC.out.trans (hB17.mono HBC.out.size)
                 clear tok9))
              | (go_at_call 26; go_must (
                 (with_reducible refine (fractions_any d.ka d.kb d.x1.neg d.x2.neg d.x3.neg d.x4.neg p1 q1 p2 q2 p3 q3 p4 q4 d.x1.A.length c1 d.x1.D.length d1 d.x2.A.length c2 d.x2.D.length d2 d.x3.A.length c3 d.x3.D.length d3 d.x4.A.length c4 d.x4.D.length d4 d.x1.h d.x2.h d.x3.h d.x4.h _ (HDV.out _ hC17).1 (HDV.out _ hC17).2.1 (HDV.out _ hC17).2.2.1 (HDV.out _ hC17).2.2.2).mono ?_)
                 rintro e w18 ⟨⟨g18, rfl, hf18⟩, hb18⟩
                 have hB18 := hB17.trans (hb18.mono hB17.size)))
              | (go_at_call 18; go_must (
                 (with_reducible refine (HSR.out g17 g18 _ (hf17.below hb18) hf18).mono ?_)
                 rintro e w19 ⟨rfl, hb19⟩
                 have hB19 := hB18.trans (hb19.mono hB18.size)))))
          go_wp2
          go_ret
          exact ⟨by simp, HBC.out.trans (hB19.mono HBC.out.size)⟩
        · have HFI := hide_ (fun p' c' W (h : Below w.heap.size w W) (hq : WSl W p' (toldL d L)) => fit_no p p' n c c' L d W HX.out.1 (HPL.out W h) hq (by have := HX.out.2.2; omega) HX.out.2.1 HSM.out HCZ.out hT hB hE)
          rw [hT] at HP1
          rw [hB] at HP2
          clear hT hB hE
          go_wp2_with (first
            | (go_at_call 22; go_must (
                (with_reducible refine (HAY.out).mono ?_)
                rintro e w11 ⟨⟨p11, c11, rfl, hw11⟩, hb11⟩
                have hb011 := hb010.trans (hb11.mono hb010.size)
                have hb011a := hb011.alloc hb011.size (.cells #[.int .i64 0, .int .i64 0] 27)
                have hw11a := hw11.below (below_alloc w11 (.cells #[.int .i64 0, .int .i64 0] 27))
                have hr11 := heap_past (o' := (.cells #[.int .i64 0, .int .i64 0] 27)) ((hb11.block _ (lt_of_heap hr10)).trans hr10)
                obtain ⟨x0, x1⟩ := cells_two (heap_alloc_last w11 (.cells #[.int .i64 0, .int .i64 0] 27))
                clear e0 e1 e2 e3 e4 e5 e6 e7 e8 e9 e10 e11 e12 e13))
            | (go_at_call 13; go_must (
                (with_reducible refine (HCM.out p11 c11 _ hw11a).mono ?_)
                rintro e w12 ⟨rfl, hb12⟩
                have hb012 := hb011a.trans (hb12.mono hb011a.size)
                have hw12 := hw11a.below hb12
                have hr12 := (hb12.block _ (lt_of_heap hr11)).trans hr11
                clear x0 x1))
            | (go_at_call 24; have _t := tok0; go_must (
                (with_reducible refine (HP1.out _ hb012).mono ?_)
                rintro e w13 ⟨rfl, hb13⟩
                have hb013 := hb012.trans (hb13.mono hb012.size)
                have hw13 := hw12.below hb13
                have hr13 := (hb13.block _ (lt_of_heap hr12)).trans hr12
                clear tok0))
            | (go_at_call 24; go_must (
                (with_reducible refine (HP2.out _ hb013).mono ?_)
                rintro e w14 ⟨rfl, hb14⟩
                have hb014 := hb013.trans (hb14.mono hb013.size)
                have hw14 := hw13.below hb14
                have hr14 := (hb14.block _ (lt_of_heap hr13)).trans hr13))
            | (go_at_call 25; go_must (
                (with_reducible refine (HFI.out p11 c11 _ hb014 hw14).mono ?_)
                rintro e w15 ⟨rfl, hb15⟩
                have hb015 := hb014.trans (hb15.mono hb014.size)
                have hr15 := (hb15.block _ (lt_of_heap hr14)).trans hr14
                have g11 := heap_past (o' := (.cells #[.int .i64 0, .int .i64 0] 27)) (heap_alloc_last w15 (.cells #[.int .i64 0, .bool false, .slice none 0 0, .slice none 0 0, .bool false, .slice none 0 0, .slice none 0 0, .int .i64 0, .bool false, .slice none 0 0, .slice none 0 0, .bool false, .slice none 0 0, .slice none 0 0] 48))
                have g12 := row_other (cs := #[.int .i64 0, .bool false, .slice none 0 0, .slice none 0 0, .bool false, .slice none 0 0, .slice none 0 0, .int .i64 0, .bool false, .slice none 0 0, .slice none 0 0, .bool false, .slice none 0 0, .slice none 0 0]) (heap_at1 w15 (.cells #[.int .i64 0, .bool false, .slice none 0 0, .slice none 0 0, .bool false, .slice none 0 0, .slice none 0 0, .int .i64 0, .bool false, .slice none 0 0, .slice none 0 0, .bool false, .slice none 0 0, .slice none 0 0] 48) (.cells #[.int .i64 0, .int .i64 0] 27)) (show w15.heap.size + 1 ≠ w15.heap.size by omega)
                have hbA := ((hb015.alloc hb015.size (.cells #[.int .i64 0, .bool false, .slice none 0 0, .slice none 0 0, .bool false, .slice none 0 0, .slice none 0 0, .int .i64 0, .bool false, .slice none 0 0, .slice none 0 0, .bool false, .slice none 0 0, .slice none 0 0] 48)).alloc (hb015.alloc hb015.size (.cells #[.int .i64 0, .bool false, .slice none 0 0, .slice none 0 0, .bool false, .slice none 0 0, .slice none 0 0, .int .i64 0, .bool false, .slice none 0 0, .slice none 0 0, .bool false, .slice none 0 0, .slice none 0 0] 48)).size (.cells #[.int .i64 0, .int .i64 0] 27))
                have hbB := below_setRow hbA hb015.size #[.int .i64 0, .bool false, .slice none 0 0, .slice none 0 0, .bool false, .slice none 0 0, .slice none 0 0, .int .i64 0, .bool false, .slice none 0 0, .slice none 0 0, .bool false, .slice none 0 0, .slice none 0 0]
                have hbC := below_setRow hbB (Nat.le_trans hb015.size (Nat.le_succ _)) #[.int .i64 3, .int .i64 (-1)]
                obtain ⟨y0, y1⟩ := cells_two (setRow_heap _ _ _ #[.int .i64 3, .int .i64 (-1)] _ _ g12)
                clear hw11 hw11a hw12 hw13 hw14))
            | ((with_reducible apply wpList_store_new); (with_reducible rfl); (with_reducible rfl); rfl; rfl; kernel_rfl; rfl; kernel_rfl) | ((with_reducible apply wpList_store_blk); (with_reducible rfl); (with_reducible rfl); rfl; assumption; rfl; kernel_rfl; rfl; kernel_rfl))
          go_ret
          exact ⟨by simp, hbC⟩
  · obtain ⟨er, ea, hne, HAP⟩ := apply_no p n c L d p1 q1 p2 q2 p3 q3 p4 q4 c1 d1 c2 d2 c3 d3 c4 d4 w10 HX.out.1 (HWN.out _ hb010) (by have := HX.out.2.2; omega) HX.out.2.1 (HDD.out _ hb010) hyes
    have z3 : (er == 0) = false := by simpa using hne
    have z4 : (er != 0) = true := by simpa using hne
    clear hyes
    go_wp2_with (first
      | (go_at_call 22; go_must (
          (with_reducible refine (HAP.out _ (Below.refl _ _)).mono ?_)
          rintro e w11 ⟨rfl, hb11⟩
          have hb011 := hb010.trans (hb11.mono hb010.size)
          obtain ⟨x0, x1⟩ := cells_two (heap_alloc_last w11 (.cells #[.int .i64 er, .int .i64 ea] 27))))
      | ((with_reducible apply wpList_store_new); (with_reducible rfl); (with_reducible rfl); rfl; rfl; kernel_rfl; rfl; kernel_rfl))
    go_ret
    exact ⟨by simp, hb011.alloc hb011.size _⟩
end Go.Proofs.Ytcibbnphkpaifaa
