/- second.Apply: data and small words. -/
import Derived.Test.YtcibbnphkpaifaaSu
namespace Go.Proofs.Ytcibbnphkpaifaa
open Go.RowKit
set_option linter.unusedVariables false
set_option maxRecDepth 100000
/-- Differences as data. -/
structure Df where
  ka : Int
  kb : Int
  x1 : Fr
  x2 : Fr
  x3 : Fr
  x4 : Fr
def Df.k (d : Df) (top : Bool) : Int := if top then d.ka else d.kb
def Df.f (d : Df) (top : Bool) : Rat := if top then d.x1.h else d.x3.h
def Df.z (d : Df) (top : Bool) : Rat := if top then d.x2.h else d.x4.h
def Df.chk (d : Df) : Int := checkD d.ka d.kb [d.x1, d.x2, d.x3, d.x4]
abbrev Qw := Int × Int × Bool × Rat
def tE (d : Df) (x : Wt) : Int := toldE (x.t + d.k x.top) (x.l + d.k x.top) (d.f x.top * x.h) (d.f x.top * x.h + d.z x.top)
def tW (d : Df) (x : Wt) : Qw := (x.t + d.k x.top, x.l + d.k x.top, x.top, d.f x.top * x.h + d.z x.top)
def applyE (d : Df) : Nat → List Wt → Int × Int
  | _, [] => (0, 0)
  | i, x :: L => if tE d x = 0 then applyE d (i + 1) L else (tE d x, (i : Int))
def toWt (a : Qw) : Wt := ⟨a.1, a.2.1, a.2.2.1, rneg a.2.2.2, rn a.2.2.2, rd a.2.2.2⟩
def Ze.qw (z : Ze) : Qw := (z.t, z.l, z.top, z.h)
theorem wt_qw (Z : List Ze) : Z.map Ze.wt = (Z.map Ze.qw).map toWt := by rw [List.map_map]; rfl
theorem firstE_zero {L : List Fr} (h : firstE L = 0) : ∀ x ∈ L, x.chk = 0 := by
  induction L with
  | nil => intro x hx; cases hx
  | cons y L ih =>
    unfold firstE at h
    by_cases hy : y.chk = 0
    · rw [if_pos hy] at h
      intro x hx
      rcases List.mem_cons.1 hx with rfl | hx
      · exact hy
      · exact ih h x hx
    · rw [if_neg hy] at h; exact absurd h hy
theorem far_false {n : Int} (h : farB n = false) : -1000 ≤ n ∧ n ≤ 1000 := by
  unfold farB at h
  rw [Bool.or_eq_false_iff] at h
  have h1 := of_decide_eq_false h.1
  have h2 := of_decide_eq_false h.2
  omega
theorem chk_zero {d : Df} (h : d.chk = 0) : (∀ top, -1000 ≤ d.k top ∧ d.k top ≤ 1000) ∧ d.x1.chk = 0 ∧ d.x2.chk = 0 ∧ d.x3.chk = 0 ∧ d.x4.chk = 0 := by
  unfold Df.chk checkD at h
  by_cases hf : (farB d.ka || farB d.kb) = true
  · rw [if_pos hf] at h; cases h
  · rw [if_neg hf] at h
    rw [Bool.not_eq_true, Bool.or_eq_false_iff] at hf
    have h1 := far_false hf.1
    have h2 := far_false hf.2
    have h3 := firstE_zero h
    refine ⟨fun top => ?_, h3 _ (by simp), h3 _ (by simp), h3 _ (by simp), h3 _ (by simp)⟩
    cases top
    · exact h2
    · exact h1
theorem FrV.rv {w : World} {x : Fr} {p q : Option Addr} {c d : Nat} (h : FrV w x p c q d) (hc : x.chk = 0) : RV w (.agg #[.bool x.neg, .slice p x.A.length c, .slice q x.D.length d]) x.h := RG.rv h hc
/-- Differences, read. -/
def DfV (w : World) (d : Df) (p1 : Option Addr) (c1 : Nat) (q1 : Option Addr) (d1 : Nat) (p2 : Option Addr) (c2 : Nat) (q2 : Option Addr) (d2 : Nat) (p3 : Option Addr) (c3 : Nat) (q3 : Option Addr) (d3 : Nat) (p4 : Option Addr) (c4 : Nat) (q4 : Option Addr) (d4 : Nat) : Prop :=
  FrV w d.x1 p1 c1 q1 d1 ∧ FrV w d.x2 p2 c2 q2 d2 ∧ FrV w d.x3 p3 c3 q3 d3 ∧ FrV w d.x4 p4 c4 q4 d4
theorem pick_df (d : Df) (top : Bool) (p1 q1 p2 q2 p3 q3 p4 q4 : Option Addr) (c1 d1 c2 d2 c3 d3 c4 d4 : Nat) (w0 w : World) (hd : DfV w0 d p1 c1 q1 d1 p2 c2 q2 d2 p3 c3 q3 d3 p4 c4 q4 d4) (hc : d.chk = 0) :
    Calls Try.prog 59 #[.agg #[.int .i64 d.ka, .bool d.x1.neg, .slice p1 d.x1.A.length c1, .slice q1 d.x1.D.length d1, .bool d.x2.neg, .slice p2 d.x2.A.length c2, .slice q2 d.x2.D.length d2, .int .i64 d.kb, .bool d.x3.neg, .slice p3 d.x3.A.length c3, .slice q3 d.x3.D.length d3, .bool d.x4.neg, .slice p4 d.x4.A.length c4, .slice q4 d.x4.D.length d4], .bool top] w
      fun e w' => (∃ s2 p2 n2 c2 q2 m2 d2 s3 p3 n3 c3 q3 m3 d3, e = .returned (.agg #[.int .i64 (d.k top), .bool s2, .slice p2 n2 c2, .slice q2 m2 d2, .bool s3, .slice p3 n3 c3, .slice q3 m3 d3]) ∧ Hid (RV w0 (.agg #[.bool s2, .slice p2 n2 c2, .slice q2 m2 d2]) (d.f top) ∧ RV w0 (.agg #[.bool s3, .slice p3 n3 c3, .slice q3 m3 d3]) (d.z top))) ∧ Below w.heap.size w w' := by
  obtain ⟨_, h1, h2, h3, h4⟩ := chk_zero hc
  refine (pick_any top d.ka d.kb d.x1.neg d.x2.neg d.x3.neg d.x4.neg p1 q1 p2 q2 p3 q3 p4 q4 d.x1.A.length c1 d.x1.D.length d1 d.x2.A.length c2 d.x2.D.length d2 d.x3.A.length c3 d.x3.D.length d3 d.x4.A.length c4 d.x4.D.length d4 w).mono ?_
  rintro e w' ⟨rfl, hb⟩
  refine ⟨?_, hb⟩
  cases top
  · exact ⟨_, _, _, _, _, _, _, _, _, _, _, _, _, _, rfl, hide_ ⟨hd.2.2.1.rv h3, hd.2.2.2.rv h4⟩⟩
  · exact ⟨_, _, _, _, _, _, _, _, _, _, _, _, _, _, rfl, hide_ ⟨hd.1.rv h1, hd.2.1.rv h2⟩⟩
theorem setCell_row {w : World} {B j : Nat} {cs : Array Value} {x : Value} {S : TypeId} (h0 : w.heap[B]? = some (.cells cs S)) : w.setCell ⟨B, j, none⟩ x = w.setRow B (cs.setIfInBounds j x) := by
  unfold World.setCell World.setRow
  simp only
  congr 1
  apply Array.ext_getElem?
  intro i
  by_cases hi : B = i
  · subst hi
    simp [Array.getElem?_modify, h0]
  · simp [Array.getElem?_modify, hi]
theorem setRow_setRow (w : World) (B : Nat) (a b : Array Value) : (w.setRow B a).setRow B b = w.setRow B b := by
  unfold World.setRow
  simp only
  congr 1
  apply Array.ext_getElem?
  intro i
  by_cases hi : B = i
  · subst hi
    simp only [Array.getElem?_modify, if_true]
    cases w.heap[B]? with
    | none => rfl
    | some o => cases o <;> rfl
  · simp [Array.getElem?_modify, hi]
theorem set6_row {w : World} {B : Nat} {a b c d e f x0 x1 x2 x3 x4 x5 : Value} {S : TypeId} (h0 : w.heap[B]? = some (.cells #[a, b, c, d, e, f] S)) :
    (((((w.setCell ⟨B, 0, none⟩ x0).setCell ⟨B, 1, none⟩ x1).setCell ⟨B, 2, none⟩ x2).setCell ⟨B, 3, none⟩ x3).setCell ⟨B, 4, none⟩ x4).setCell ⟨B, 5, none⟩ x5 = w.setRow B #[x0, x1, x2, x3, x4, x5] := by
  rw [setCell_row h0]
  have h1 := setRow_heap _ _ _ (#[a, b, c, d, e, f].setIfInBounds 0 x0) _ _ h0
  rw [setCell_row h1, setRow_setRow]
  have h2 := setRow_heap _ _ _ ((#[a, b, c, d, e, f].setIfInBounds 0 x0).setIfInBounds 1 x1) _ _ h0
  rw [setCell_row h2, setRow_setRow]
  have h3 := setRow_heap _ _ _ (((#[a, b, c, d, e, f].setIfInBounds 0 x0).setIfInBounds 1 x1).setIfInBounds 2 x2) _ _ h0
  rw [setCell_row h3, setRow_setRow]
  have h4 := setRow_heap _ _ _ ((((#[a, b, c, d, e, f].setIfInBounds 0 x0).setIfInBounds 1 x1).setIfInBounds 2 x2).setIfInBounds 3 x3) _ _ h0
  rw [setCell_row h4, setRow_setRow]
  have h5 := setRow_heap _ _ _ (((((#[a, b, c, d, e, f].setIfInBounds 0 x0).setIfInBounds 1 x1).setIfInBounds 2 x2).setIfInBounds 3 x3).setIfInBounds 4 x4) _ _ h0
  rw [setCell_row h5, setRow_setRow]
  rfl
theorem free_six {w : World} {g : Nat} {a b c d e f : Value} {T : TypeId} (h : w.heap[g]? = some (.cells #[a, b, c, d, e, f] T)) : w.frozen? ⟨g, 0, none⟩ = false ∧ w.frozen? ⟨g, 1, none⟩ = false ∧ w.frozen? ⟨g, 2, none⟩ = false ∧ w.frozen? ⟨g, 3, none⟩ = false ∧ w.frozen? ⟨g, 4, none⟩ = false ∧ w.frozen? ⟨g, 5, none⟩ = false := ⟨blk_free h 0, blk_free h 1, blk_free h 2, blk_free h 3, blk_free h 4, blk_free h 5⟩
/-- What told told, as it lies in a block. -/
def RowT (wA wx : World) (E : Int) (Q : Qw) (s11 s12 : Value) : Prop := ∃ b t l top s p n c q m d, s11 = .pointer (some ⟨b, 0, none⟩) ∧ s12 = .int .i64 E ∧ wA.heap.size ≤ b ∧ wx.heap[b]? = some (.cells #[.int .i64 t, .int .i64 l, .bool top, .bool s, .slice p n c, .slice q m d] 34) ∧ Below wA.heap.size wA wx ∧
  (E = 0 → t = Q.1 ∧ l = Q.2.1 ∧ top = Q.2.2.1 ∧ Fits Q.2.2.2 ∧ RO wx wA.heap.size (.agg #[.bool s, .slice p n c, .slice q m d]) Q.2.2.2)
theorem rowT_set {wA V W : World} {b : Nat} {E : Int} {Q : Qw} {u0 u1 u2 u3 u4 u5 : Value} {t l : Int} {top s : Bool} {p q : Option Addr} {n c m d : Nat} (hb : W.heap[b]? = some (.cells #[u0, u1, u2, u3, u4, u5] 34)) (hB : wA.heap.size ≤ b) (hbV : b < V.heap.size) (hBV : Below wA.heap.size wA V) (hVW : Below V.heap.size V W)
    (ho : E = 0 → t = Q.1 ∧ l = Q.2.1 ∧ top = Q.2.2.1 ∧ Fits Q.2.2.2 ∧ RO W V.heap.size (.agg #[.bool s, .slice p n c, .slice q m d]) Q.2.2.2) :
    RowT wA (W.setRow b #[.int .i64 t, .int .i64 l, .bool top, .bool s, .slice p n c, .slice q m d]) E Q (.pointer (some ⟨b, 0, none⟩)) (.int .i64 E) :=
  ⟨b, t, l, top, s, p, n, c, q, m, d, rfl, rfl, hB, setRow_heap _ _ _ _ _ _ hb, below_setRow (hBV.trans (hVW.mono (by omega))) hB _, fun h0 => by
    obtain ⟨h1, h2, h3, h4, h5⟩ := ho h0
    exact ⟨h1, h2, h3, h4, (h5.stored (W := wA) hbV).mono (by omega)⟩⟩
theorem rowT_new {wA V W : World} {E : Int} {Q : Qw} {t l : Int} {top s : Bool} {p q : Option Addr} {n c m d : Nat} (hBV : Below wA.heap.size wA V) (hVW : Below V.heap.size V W)
    (ho : E = 0 → t = Q.1 ∧ l = Q.2.1 ∧ top = Q.2.2.1 ∧ Fits Q.2.2.2 ∧ RO W V.heap.size (.agg #[.bool s, .slice p n c, .slice q m d]) Q.2.2.2) :
    RowT wA (W.alloc (.cells #[.int .i64 t, .int .i64 l, .bool top, .bool s, .slice p n c, .slice q m d] 34)) E Q (.pointer (some ⟨W.heap.size, 0, none⟩)) (.int .i64 E) :=
  ⟨W.heap.size, t, l, top, s, p, n, c, q, m, d, rfl, rfl, Nat.le_trans hBV.size hVW.size, heap_alloc_last _ _, (hBV.trans (hVW.mono hBV.size)).alloc (Nat.le_trans hBV.size hVW.size) _, fun h0 => by
    obtain ⟨h1, h2, h3, h4, h5⟩ := ho h0
    exact ⟨h1, h2, h3, h4, (h5.below (below_alloc _ _)).mono hBV.size⟩⟩
theorem told_fits {T L : Int} {y z : Rat} (h : toldE T L y z = 0) : Fits z := by
  unfold toldE at h
  by_cases h1 : T < 0 ∨ 1048576 < L
  · rw [if_pos h1] at h; cases h
  · rw [if_neg h1] at h
    by_cases h2 : Fits y ∧ Fits z
    · exact h2.2
    · rw [if_neg h2] at h; cases h
theorem applyE_step {d : Df} {L : List Wt} {k : Nat} (h : k < L.length) : applyE d k (L.drop k) = if tE d L[k] = 0 then applyE d (k + 1) (L.drop (k + 1)) else (tE d L[k], (k : Int)) := by
  rw [List.drop_eq_getElem_cons h]; rfl
end Go.Proofs.Ytcibbnphkpaifaa
