/- Contracts at waters that may be none. -/
import Derived.Test.YtcibbnphkpaifaaUi
namespace Go.Proofs.Ytcibbnphkpaifaa
open Go.RowKit
set_option linter.unusedVariables false
set_option maxRecDepth 100000
/-- Waters read, or none, whatever the pointer. -/
def WSn (w : World) (p : Option Addr) (L : List Wt) : Prop := L = [] ∨ WSl w p L
theorem WSn.below {w w' : World} {p : Option Addr} {L : List Wt} (h : WSn w p L) (hb : Below w.heap.size w w') : WSn w' p L := h.imp id (fun h => h.below hb)
theorem WSr.wsn {w : World} {p : Option Addr} {L : List Wt} (h : WSr w p L) (hl : longW L = false) : WSn w p L := by
  rcases List.eq_nil_or_concat L with rfl | ⟨_, _, rfl⟩
  · exact .inl rfl
  · exact .inr (h.wsl (by simp) hl)
theorem check_wn (p : Option Addr) (n c : Nat) (L : List Wt) (w : World) (hn : n = L.length) (hp : WSn w p L) (hl : n ≤ 4096) (hs : Snd L) :
    Calls Try.prog 13 #[.slice p n c] w fun e w' => e = .returned (.agg #[.int .i64 0, .int .i64 0]) ∧ Below w.heap.size w w' := by
  subst hn
  rcases hp with rfl | hp
  · exact check_nil p c w
  · have h := checkW_any p L.length c L w rfl hp hl
    rw [hs.zero] at h
    exact h
theorem apply_wn0 (p : Option Addr) (n c : Nat) (L : List Wt) (d : Df) (p1 q1 p2 q2 p3 q3 p4 q4 : Option Addr) (c1 d1 c2 d2 c3 d3 c4 d4 : Nat) (w : World) (hn : n = L.length) (hp : WSn w p L) (hl : n ≤ 4096) (hs : Snd L) (hd : DfV w d p1 c1 q1 d1 p2 c2 q2 d2 p3 c3 q3 d3 p4 c4 q4 d4) (hc : d.chk = 0) :
    Calls Try.prog 22 #[.slice p n c, .agg #[.int .i64 d.ka, .bool d.x1.neg, .slice p1 d.x1.A.length c1, .slice q1 d.x1.D.length d1, .bool d.x2.neg, .slice p2 d.x2.A.length c2, .slice q2 d.x2.D.length d2, .int .i64 d.kb, .bool d.x3.neg, .slice p3 d.x3.A.length c3, .slice q3 d.x3.D.length d3, .bool d.x4.neg, .slice p4 d.x4.A.length c4, .slice q4 d.x4.D.length d4]] w (ResW w (L.map (tW d)) (appF L d)) := by
  rcases hp with rfl | hp
  · subst hn
    exact apply_nil0 p c d p1 q1 p2 q2 p3 q3 p4 q4 c1 d1 c2 d2 c3 d3 c4 d4 w hd hc
  · exact apply_main p n c L d p1 q1 p2 q2 p3 q3 p4 q4 c1 d1 c2 d2 c3 d3 c4 d4 w hn hp hl hs hd hc
theorem apply_wn1 (p : Option Addr) (n c : Nat) (L : List Wt) (d : Df) (p1 q1 p2 q2 p3 q3 p4 q4 : Option Addr) (c1 d1 c2 d2 c3 d3 c4 d4 : Nat) (w : World) (hn : n = L.length) (hp : WSn w p L) (hl : n ≤ 4096) (hs : Snd L) (hd : DfV w d p1 c1 q1 d1 p2 c2 q2 d2 p3 c3 q3 d3 p4 c4 q4 d4) (hc : d.chk ≠ 0) :
    Calls Try.prog 22 #[.slice p n c, .agg #[.int .i64 d.ka, .bool d.x1.neg, .slice p1 d.x1.A.length c1, .slice q1 d.x1.D.length d1, .bool d.x2.neg, .slice p2 d.x2.A.length c2, .slice q2 d.x2.D.length d2, .int .i64 d.kb, .bool d.x3.neg, .slice p3 d.x3.A.length c3, .slice q3 d.x3.D.length d3, .bool d.x4.neg, .slice p4 d.x4.A.length c4, .slice q4 d.x4.D.length d4]] w (ResN w d.chk (-1)) := by
  rcases hp with rfl | hp
  · subst hn
    exact apply_nil1 p c d p1 q1 p2 q2 p3 q3 p4 q4 c1 d1 c2 d2 c3 d3 c4 d4 w hd hc
  · exact apply_dif p n c L d p1 q1 p2 q2 p3 q3 p4 q4 c1 d1 c2 d2 c3 d3 c4 d4 w hn hp hl hs hd hc
theorem parted_wn (p : Option Addr) (n c : Nat) (top : Bool) (L : List Wt) (w : World) (hn : n = L.length) (hp : WSn w p L) (hl : n ≤ 4096) (hs : Snd L) :
    Calls Try.prog 24 #[.slice p n c, .bool top] w fun e w' => e = .returned (.bool (partB top L)) ∧ Below w.heap.size w w' := by
  rcases hp with rfl | hp
  · subst hn
    exact parted_nil p c top w
  · exact parted_any p n c top L w hn hp hl hs
theorem ksamews_wn (p q : Option Addr) (n m c d : Nat) (L M : List Wt) (w : World) (hn : n = L.length) (hm : m = M.length) (hlm : L.length = M.length) (hp : WSl w p L) (hq : WSn w q M) (hs : n ≤ 1000000) (hS : Same2 L M) :
    Calls Try.prog 23 #[.slice p n c, .slice q m d] w fun e w' => e = .returned (.bool true) ∧ Below w.heap.size w w' := by
  rcases hq with rfl | hq
  · have h0 : L.length = 0 := hlm
    subst hn hm
    rw [h0]
    exact ksamews_nil p q c d w
  · exact ksamews_true p q n m c d L M w hn hm hlm hp hq hs hS
/-- Apply by no difference. -/
theorem apply_none (p : Option Addr) (n c : Nat) (L : List Wt) (s1 s2 : Bool) (p1 q1 p2 q2 : Option Addr) (n1 c1 m1 d1 n2 c2 m2 d2 : Nat) (b1 b2 : Nat) (w : World) (hn : n = L.length) (hp : WSn w p L) (hl : n ≤ 4096) (hs : Snd L) (hdl : DigL L)
    (h1 : RO w b1 (.agg #[.bool s1, .slice p1 n1 c1, .slice q1 m1 d1]) 1) (h2 : RO w b2 (.agg #[.bool s2, .slice p2 n2 c2, .slice q2 m2 d2]) 0) :
    Calls Try.prog 22 #[.slice p n c, .agg #[.int .i64 0, .bool s1, .slice p1 n1 c1, .slice q1 m1 d1, .bool s2, .slice p2 n2 c2, .slice q2 m2 d2, .int .i64 0, .bool s1, .slice p1 n1 c1, .slice q1 m1 d1, .bool s2, .slice p2 n2 c2, .slice q2 m2 d2]] w
      fun e w' => (∃ p' c' Z, e = .returned (.tuple #[.slice p' n c', .agg #[.int .i64 0, .int .i64 0]]) ∧ Hid (WSl w' p' Z ∧ n = Z.length ∧ Z.length = L.length ∧ Same2 Z L)) ∧ Below w.heap.size w w' := by
  obtain ⟨⟨rfl, rfl, rfl⟩, f1⟩ := h1.fr fits_one
  obtain ⟨⟨rfl, rfl, rfl⟩, f2⟩ := h2.fr fits_zero
  have h := apply_wn0 p n c L noneD p1 q1 p2 q2 p1 q1 p2 q2 c1 d1 c2 d2 c1 d1 c2 d2 w hn hp hl hs ⟨f1, f2, f1, f2⟩ noneD_chk
  rw [none_appF hs hdl] at h
  refine h.mono fun e w' h3 => ⟨?_, h3.2⟩
  rcases h3.1 with ⟨_, v, Z, rfl, ho, hz⟩ | ⟨h4, _⟩
  · obtain ⟨p', c', rfl⟩ := row_slice ho.1
    have hw := ho.wsl
    have e1 : Z.map Ze.wt = L := by rw [wt_qw, hz]; exact none_told hs hdl
    have e2 : Z.length = n := by rw [hn, ← e1, List.length_map]
    rw [e1] at hw
    rw [e2]
    refine ⟨p', c', L, rfl, hide_ ⟨hw, hn, rfl, fun i h1 h2 => ⟨rfl, rfl, rfl, rfl, (hs.one h1).2.2.2, (hs.one h1).2.2.2⟩⟩⟩
  · exact absurd rfl h4
end Go.Proofs.Ytcibbnphkpaifaa
