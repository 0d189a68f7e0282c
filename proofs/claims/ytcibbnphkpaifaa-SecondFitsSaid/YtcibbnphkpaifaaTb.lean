/- What the chapter's example comes to, as contracts. -/
import Derived.Test.YtcibbnphkpaifaaSz
namespace Go.Proofs.Ytcibbnphkpaifaa
open Go.RowKit
set_option linter.unusedVariables false
set_option maxRecDepth 100000
theorem RV.fr {w : World} {s : Bool} {p q : Option Addr} {n c m d : Nat} {x : Rat} (h : RV w (.agg #[.bool s, .slice p n c, .slice q m d]) x) : (s = rneg x ∧ n = (rn x).length ∧ m = (rd x).length) ∧ FrV w (frOf x) p c q d := by
  have h' := h
  obtain ⟨hf, p', c', q', d', e, _⟩ := h
  simp only [Value.agg.injEq, Array.mk.injEq, List.cons.injEq, Value.slice.injEq, Value.bool.injEq] at e
  obtain ⟨rfl, ⟨rfl, rfl, rfl⟩, ⟨rfl, rfl, rfl⟩, _⟩ := e
  exact ⟨⟨rfl, rfl, rfl⟩, h'.rg⟩
theorem btw_snd {L : List Wt} {t : Int} {x : Rat} (hs : Snd L) (h : atQ L t = (x, 0)) : btw L t = (x, 0, 0) := by
  unfold btw
  rw [hs.zero, if_pos rfl, h]
  rfl
theorem Between_ok (p : Option Addr) (n c : Nat) (t : Int) (L : List Wt) (x : Rat) (w : World) (hn : n = L.length) (hp : WSl w p L) (hl : n ≤ 4096) (hs : Snd L) (h : atQ L t = (x, 0)) :
    Calls Try.prog 15 #[.slice p n c, .int .i64 t] w fun e w' => (∃ s p n c q m d, e = .returned (.tuple #[.agg #[.bool s, .slice p n c, .slice q m d], .agg #[.int .i64 0, .int .i64 0]]) ∧ RO w' w.heap.size (.agg #[.bool s, .slice p n c, .slice q m d]) x ∧ Fits x) ∧ Below w.heap.size w w' := by
  refine (Between_any p n c t L w hn hp hl).mono fun e w' hr => ?_
  rw [btw_snd hs h] at hr
  obtain ⟨⟨s, p, n, c, q, m, d, rfl, h1, _⟩, hb⟩ := hr
  obtain ⟨_, h2, h3⟩ := h1 rfl
  exact ⟨⟨s, p, n, c, q, m, d, rfl, h3, h2⟩, hb⟩
theorem apply_ex (p : Option Addr) (s1 s2 s3 s4 : Bool) (p1 q1 p2 q2 p3 q3 p4 q4 : Option Addr) (n1 c1 m1 d1 n2 c2 m2 d2 n3 c3 m3 d3 n4 c4 m4 d4 : Nat) (w : World) (hp : WSl w p exL)
    (h1 : RV w (.agg #[.bool s1, .slice p1 n1 c1, .slice q1 m1 d1]) 2) (h2 : RV w (.agg #[.bool s2, .slice p2 n2 c2, .slice q2 m2 d2]) 0) (h3 : RV w (.agg #[.bool s3, .slice p3 n3 c3, .slice q3 m3 d3]) 1) (h4 : RV w (.agg #[.bool s4, .slice p4 n4 c4, .slice q4 m4 d4]) (1 / 2)) :
    Calls Try.prog 22 #[.slice p 3 3, .agg #[.int .i64 1, .bool s1, .slice p1 n1 c1, .slice q1 m1 d1, .bool s2, .slice p2 n2 c2, .slice q2 m2 d2, .int .i64 (-1), .bool s3, .slice p3 n3 c3, .slice q3 m3 d3, .bool s4, .slice p4 n4 c4, .slice q4 m4 d4]] w
      fun e w' => (∃ v Z, e = .returned (.tuple #[v, .agg #[.int .i64 0, .int .i64 0]]) ∧ OWs w' w.heap.size v Z ∧ Z.map Ze.qw = exT) ∧ Below w.heap.size w w' := by
  obtain ⟨⟨rfl, rfl, rfl⟩, r1⟩ := RV.fr h1
  obtain ⟨⟨rfl, rfl, rfl⟩, r2⟩ := RV.fr h2
  obtain ⟨⟨rfl, rfl, rfl⟩, r3⟩ := RV.fr h3
  obtain ⟨⟨rfl, rfl, rfl⟩, r4⟩ := RV.fr h4
  have h := apply_main p 3 3 exL exD p1 q1 p2 q2 p3 q3 p4 q4 c1 d1 c2 d2 c3 d3 c4 d4 w rfl hp (by decide) ex_snd ⟨r1, r2, r3, r4⟩ exD_chk
  refine h.mono fun e w' hr => ⟨?_, hr.2⟩
  rw [ex_appF, ex_tW] at hr
  rcases hr.1 with ⟨_, v, Z, rfl, h1, h2⟩ | ⟨h, _⟩
  · exact ⟨v, Z, rfl, h1, h2⟩
  · exact absurd rfl h
theorem ex_cells {w : World} {base : Nat} {v : Value} {Z : List Ze} (h : OWs w base v Z) (hz : Z.map Ze.qw = exT) : ∃ g c, v = .slice (some ⟨g, 0, none⟩) 3 c ∧ g < w.heap.size ∧ ∃ s1 p1 n1 c1 q1 m1 d1 s2 p2 n2 c2 q2 m2 d2 s3 p3 n3 c3 q3 m3 d3,
    (w.cell? ⟨g, 0, none⟩ = some (.int .i64 1) ∧ w.cell? ⟨g, 3, none⟩ = some (.bool s1) ∧ w.cell? ⟨g, 4, none⟩ = some (.slice p1 n1 c1) ∧ w.cell? ⟨g, 5, none⟩ = some (.slice q1 m1 d1)) ∧
    (w.cell? ⟨g, 6, none⟩ = some (.int .i64 7) ∧ w.cell? ⟨g, 7, none⟩ = some (.int .i64 8) ∧ w.cell? ⟨g, 8, none⟩ = some (.bool true) ∧ w.cell? ⟨g, 9, none⟩ = some (.bool s2) ∧ w.cell? ⟨g, 10, none⟩ = some (.slice p2 n2 c2) ∧ w.cell? ⟨g, 11, none⟩ = some (.slice q2 m2 d2)) ∧
    (w.cell? ⟨g, 12, none⟩ = some (.int .i64 11) ∧ w.cell? ⟨g, 15, none⟩ = some (.bool s3) ∧ w.cell? ⟨g, 16, none⟩ = some (.slice p3 n3 c3) ∧ w.cell? ⟨g, 17, none⟩ = some (.slice q3 m3 d3)) ∧
    RV w (.agg #[.bool s1, .slice p1 n1 c1, .slice q1 m1 d1]) (1 / 2) ∧ RV w (.agg #[.bool s2, .slice p2 n2 c2, .slice q2 m2 d2]) 8 ∧ RV w (.agg #[.bool s3, .slice p3 n3 c3, .slice q3 m3 d3]) (3 / 2) := by
  have hl : Z.length = 3 := by have := congrArg List.length hz; simpa [exT] using this
  obtain ⟨p, c, rfl⟩ := row_slice h.1
  have hw := h.wsl
  rw [wt_qw, hz] at hw
  rw [hl]
  rcases row_block h.1 with ⟨e, e0⟩ | ⟨g, c', cur, e, hb, hg, _⟩
  · omega
  · simp only [Value.slice.injEq] at e
    obtain ⟨rfl, _, rfl⟩ := e
    refine ⟨g, c, rfl, lt_of_heap hg, ?_⟩
    have hs := ex_snd2
    obtain ⟨_, p1, c1, q1, d1, ⟨a0, _, _, a3, a4, a5⟩, r1⟩ := hw.at (i := 0) (by show 0 < 3; omega)
    obtain ⟨_, p2, c2, q2, d2, ⟨b0, b1, b2, b3, b4, b5⟩, r2⟩ := hw.at (i := 1) (by show 1 < 3; omega)
    obtain ⟨_, p3, c3, q3, d3, ⟨e0, _, _, e3, e4, e5⟩, r3⟩ := hw.at (i := 2) (by show 2 < 3; omega)
    have v1 := r1.rv (hs.one (i := 0) (by show 0 < 3; omega)).2.2.2
    have v2 := r2.rv (hs.one (i := 1) (by show 1 < 3; omega)).2.2.2
    have v3 := r3.rv (hs.one (i := 2) (by show 2 < 3; omega)).2.2.2
    have x1 : ratG ((exT.map toWt)[0]'(by show 0 < 3; omega)).neg ((exT.map toWt)[0]'(by show 0 < 3; omega)).A ((exT.map toWt)[0]'(by show 0 < 3; omega)).D = 1 / 2 := toWt_h (1, 1, false, 1 / 2)
    have x2 : ratG ((exT.map toWt)[1]'(by show 1 < 3; omega)).neg ((exT.map toWt)[1]'(by show 1 < 3; omega)).A ((exT.map toWt)[1]'(by show 1 < 3; omega)).D = 8 := toWt_h (7, 8, true, 8)
    have x3 : ratG ((exT.map toWt)[2]'(by show 2 < 3; omega)).neg ((exT.map toWt)[2]'(by show 2 < 3; omega)).A ((exT.map toWt)[2]'(by show 2 < 3; omega)).D = 3 / 2 := toWt_h (11, 11, false, 3 / 2)
    rw [x1] at v1
    rw [x2] at v2
    rw [x3] at v3
    exact ⟨_, p1, _, c1, q1, _, d1, _, p2, _, c2, q2, _, d2, _, p3, _, c3, q3, _, d3, ⟨a0, a3, a4, a5⟩, ⟨b0, b1, b2, b3, b4, b5⟩, ⟨e0, e3, e4, e5⟩, v1, v2, v3⟩
end Go.Proofs.Ytcibbnphkpaifaa
