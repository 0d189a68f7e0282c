/- second.Fit. -/
import Derived.Test.YtcibbnphkpaifaaUe
namespace Go.Proofs.Ytcibbnphkpaifaa
open Go.RowKit
set_option linter.unusedVariables false
set_option maxRecDepth 100000
/-- Two fractions told, the second's words behind the first's. -/
def TwoRO (w : World) (base : Nat) (v1 v2 : Value) (k1 k2 : Option Nat) (x1 x2 : Rat) : Prop := ∃ B, base ≤ B ∧ (∀ j, k1 = some j ∨ k2 = some j → j < B) ∧ RO w base v1 x1 ∧ RO w B v2 x2
theorem TwoRO.below {w w' : World} {base : Nat} {v1 v2 : Value} {k1 k2 : Option Nat} {x1 x2 : Rat} (h : TwoRO w base v1 v2 k1 k2 x1 x2) (hb : Below w.heap.size w w') : TwoRO w' base v1 v2 k1 k2 x1 x2 := by
  obtain ⟨B, h1, h2, h3, h4⟩ := h
  exact ⟨B, h1, h2, h3.below hb, h4.below hb⟩
theorem TwoRO.row {w : World} {base g : Nat} {v1 v2 : Value} {k1 k2 : Option Nat} {x1 x2 : Rat} {cs : Array Value} {T : TypeId} (h : TwoRO w base v1 v2 k1 k2 x1 x2) (hg : w.heap[g]? = some (.cells cs T)) (hT : T ≠ 88) (ds : Array Value) : TwoRO (w.setRow g ds) base v1 v2 k1 k2 x1 x2 := by
  obtain ⟨B, h1, h2, h3, h4⟩ := h
  exact ⟨B, h1, h2, h3.row hg hT ds, h4.row hg hT ds⟩
theorem TwoRO.mono {w : World} {base base' : Nat} {v1 v2 : Value} {k1 k2 : Option Nat} {x1 x2 : Rat} (h : TwoRO w base v1 v2 k1 k2 x1 x2) (hb : base' ≤ base) : TwoRO w base' v1 v2 k1 k2 x1 x2 := by
  obtain ⟨B, h1, h2, h3, h4⟩ := h
  exact ⟨B, Nat.le_trans hb h1, h2, h3.mono hb, h4⟩
/-- What Fit tells of sound waters of one kind each. -/
def ResFF (w : World) (PT PF : List (Wt × Wt)) (e : Ending) (w' : World) : Prop :=
  (((fitE PT ≠ 0 ∧ e = .returned (.tuple #[.agg #[.int .i64 0, .bool false, .slice none 0 0, .slice none 0 0, .bool false, .slice none 0 0, .slice none 0 0, .int .i64 0, .bool false, .slice none 0 0, .slice none 0 0, .bool false, .slice none 0 0, .slice none 0 0], .agg #[.int .i64 (fitE PT), .int .i64 (-1)]])) ∨ (fitE PT = 0 ∧ fitE PF ≠ 0 ∧ e = .returned (.tuple #[.agg #[.int .i64 0, .bool false, .slice none 0 0, .slice none 0 0, .bool false, .slice none 0 0, .slice none 0 0, .int .i64 0, .bool false, .slice none 0 0, .slice none 0 0, .bool false, .slice none 0 0, .slice none 0 0], .agg #[.int .i64 (fitE PF), .int .i64 (-1)]]))) ∨
    (fitE PT = 0 ∧ fitE PF = 0 ∧ ∃ s1 p1 n1 c1 q1 m1 d1 s2 p2 n2 c2 q2 m2 d2 s3 p3 n3 c3 q3 m3 d3 s4 p4 n4 c4 q4 m4 d4, e = .returned (.tuple #[.agg #[.int .i64 (fitD PT), .bool s1, .slice p1 n1 c1, .slice q1 m1 d1, .bool s2, .slice p2 n2 c2, .slice q2 m2 d2, .int .i64 (fitD PF), .bool s3, .slice p3 n3 c3, .slice q3 m3 d3, .bool s4, .slice p4 n4 c4, .slice q4 m4 d4], .agg #[.int .i64 0, .int .i64 0]]) ∧
      Hid (Fits (fitQ PT) ∧ Fits (fitZ PT) ∧ Fits (fitQ PF) ∧ Fits (fitZ PF)) ∧ ∃ B, TwoRO w' w.heap.size (.agg #[.bool s1, .slice p1 n1 c1, .slice q1 m1 d1]) (.agg #[.bool s2, .slice p2 n2 c2, .slice q2 m2 d2]) (Value.slice p1 n1 c1).ownBlock (Value.slice q1 m1 d1).ownBlock (fitQ PT) (fitZ PT) ∧ w.heap.size ≤ B ∧ (∀ j, (Value.slice p2 n2 c2).ownBlock = some j ∨ (Value.slice q2 m2 d2).ownBlock = some j → j < B) ∧ TwoRO w' B (.agg #[.bool s3, .slice p3 n3 c3, .slice q3 m3 d3]) (.agg #[.bool s4, .slice p4 n4 c4, .slice q4 m4 d4]) (Value.slice p3 n3 c3).ownBlock (Value.slice q3 m3 d3).ownBlock (fitQ PF) (fitZ PF))) ∧ Below w.heap.size w w'
theorem tops_at {L M : List Wt} {w : World} {pa pb : Option Addr} {k : Nat} (hLM : L.length = M.length) (hA : WSl w pa L) (hB : WSl w pb M) (hk : k < L.length) (ht : ∀ i, ∀ h : i < L.length, ∀ h2 : i < M.length, L[i].top = M[i].top) :
    ∃ ga oa gb ob tk, pa = some ⟨ga, oa, none⟩ ∧ pb = some ⟨gb, ob, none⟩ ∧ Hid (∀ W, Below w.heap.size w W → W.cell? ⟨ga, oa + k * 6 + 2, none⟩ = some (.bool tk) ∧ W.cell? ⟨gb, ob + k * 6 + 2, none⟩ = some (.bool tk)) := by
  have hkB : k < M.length := by rw [← hLM]; exact hk
  obtain ⟨ga, oa, rfl⟩ : ∃ g o, pa = some ⟨g, o, none⟩ := by
    rcases hA with ⟨_, e⟩ | ⟨g, o, e, _⟩
    · rw [e] at hk; cases hk
    · exact ⟨g, o, e⟩
  obtain ⟨gb, ob, rfl⟩ : ∃ g o, pb = some ⟨g, o, none⟩ := by
    rcases hB with ⟨_, e⟩ | ⟨g, o, e, _⟩
    · rw [e] at hkB; cases hkB
    · exact ⟨g, o, e⟩
  obtain ⟨hga, _, _, _, _, ⟨_, _, a2, _, _, _⟩, _⟩ := hA.at hk
  obtain ⟨hgb, _, _, _, _, ⟨_, _, b2, _, _, _⟩, _⟩ := hB.at hkB
  rw [← ht k hk hkB] at b2
  exact ⟨ga, oa, gb, ob, L[k].top, rfl, rfl, hide_ fun W h => ⟨(h.cell hga).trans a2, (h.cell hgb).trans b2⟩⟩
theorem pairL_ok {top : Bool} {L M : List Wt} (hs : Snd L) (hs2 : Snd M) : ∀ x ∈ pairL top L M, WtOK x.1 ∧ WtOK x.2 := by
  intro x hx
  have hx' := (List.mem_filter.1 hx).1
  have e1 : x.1 ∈ L := (List.of_mem_zip (a := x.1) (b := x.2) hx').1
  have e2 : x.2 ∈ M := (List.of_mem_zip (a := x.1) (b := x.2) hx').2
  obtain ⟨i, hi, e3⟩ := List.getElem_of_mem e1
  obtain ⟨j, hj, e4⟩ := List.getElem_of_mem e2
  have o1 := hs.one hi
  have o2 := hs2.one hj
  rw [e3] at o1
  rw [e4] at o2
  exact ⟨⟨o1.1, Int.le_trans o1.2.1 o1.2.2.1, o1.2.2.2⟩, ⟨o2.1, Int.le_trans o2.2.1 o2.2.2.1, o2.2.2.2⟩⟩
theorem pairL_len {top : Bool} {L M : List Wt} : (pairL top L M).length ≤ L.length := by
  unfold pairL
  have := List.length_filter_le (fun x : Wt × Wt => x.1.top == top) (L.zip M)
  rw [List.length_zip] at this
  omega
/-- pairs and fit, one behind the other. -/
theorem pairs_fit (top : Bool) (L M : List Wt) (w : World) (p q : Option Addr) (m c d : Nat) (hm : Hid (m = (pairL top L M).length)) (hl : L.length ≤ 4096) (h1 : WSl w p ((pairL top L M).map (·.1))) (h2 : WSl w q ((pairL top L M).map (·.2))) (hs : Snd L) (hs2 : Snd M) :
    Calls Try.prog 61 #[.slice p m c, .slice q m d] w (ResP w (pairL top L M)) :=
  fit_list p q m c d _ w hm.out (by rw [hm.out]; exact Nat.le_trans pairL_len hl) h1 h2 (pairL_ok hs hs2)
set_option maxHeartbeats 12800000 in
theorem Fit_ok (p q : Option Addr) (n c d : Nat) (L M : List Wt) (w : World) (hn : n = L.length) (hm : n = M.length) (hp : WSl w p L) (hq : WSl w q M) (hl : n ≤ 4096) (hs : Snd L) (hs2 : Snd M) (htop : ∀ i, ∀ h : i < L.length, ∀ h2 : i < M.length, L[i].top = M[i].top) :
    Calls Try.prog 25 #[.slice p n c, .slice q n d] w (ResFF w (pairL true L M) (pairL false L M)) := by
  have HK1 := hide_ (fun W (h : Below w.heap.size w W) => checkW_any p n c L W hn (hp.below h) hl)
  rw [hs.zero] at HK1
  have HK2 := hide_ (fun W (h : Below w.heap.size w W) => checkW_any q n d M W hm (hq.below h) hl)
  rw [hs2.zero] at HK2
  have HPT := hide_ (fun W (h : Below w.heap.size w W) => pairs_any p q n c d true L M W hn hm (hp.below h) (hq.below h) hl)
  have HPF := hide_ (fun W (h : Below w.heap.size w W) => pairs_any p q n c d false L M W hn hm (hp.below h) (hq.below h) hl)
  have HFT := hide_ (fun W (p q : Option Addr) (m c d : Nat) (e : Hid (m = (pairL true L M).length)) h1 h2 => pairs_fit true L M W p q m c d e (by omega) h1 h2 hs hs2)
  have HFF := hide_ (fun W (p q : Option Addr) (m c d : Nat) (e : Hid (m = (pairL false L M).length)) h1 h2 => pairs_fit false L M W p q m c d e (by omega) h1 h2 hs hs2)
  have HTT := hide_ (fun (k : Nat) (h : k < n) => tops_at (k := k) (show L.length = M.length by omega) hp hq (show k < L.length by omega) htop)
  clear hp hq hs hs2 htop hn hm
  generalize pairL true L M = PT at *
  generalize pairL false L M = PF at *
  have HL := hide_ hl
  clear hl
  have hb0 : Below w.heap.size w ((w.alloc (.cells #[.int .i64 0, .bool false, .slice none 0 0, .slice none 0 0, .bool false, .slice none 0 0, .slice none 0 0, .int .i64 0, .bool false, .slice none 0 0, .slice none 0 0, .bool false, .slice none 0 0, .slice none 0 0] 48)).alloc (.cells #[.int .i64 0, .int .i64 0] 27)) := (below_alloc _ _).alloc (by simp) _
  have hr4 := heap_past (o' := (.cells #[.int .i64 0, .int .i64 0] 27)) (heap_alloc_last w (.cells #[.int .i64 0, .bool false, .slice none 0 0, .slice none 0 0, .bool false, .slice none 0 0, .slice none 0 0, .int .i64 0, .bool false, .slice none 0 0, .slice none 0 0, .bool false, .slice none 0 0, .slice none 0 0] 48))
  have hr5 := heap_at1 w (.cells #[.int .i64 0, .bool false, .slice none 0 0, .slice none 0 0, .bool false, .slice none 0 0, .slice none 0 0, .int .i64 0, .bool false, .slice none 0 0, .slice none 0 0, .bool false, .slice none 0 0, .slice none 0 0] 48) (.cells #[.int .i64 0, .int .i64 0] 27)
  have HRR := hide_ (⟨hr4, hr5⟩ : _ ∧ _)
  have HB0 := hide_ hb0
  clear hr4 hr5
  have tok1 : True := trivial
  have tok2 : True := trivial
  go_enter Try.func25, Try.ntmps25
  go_wp2_with (first
    | (go_at_call 13; have _t := tok1; go_must (
        (with_reducible refine (HK1.out _ hb0).mono ?_)
        rintro e w1 ⟨rfl, hb1⟩
        have hb2 : Below w.heap.size w (w1.alloc (.cells #[.int .i64 0, .int .i64 0] 27)) := (hb0.trans (hb1.mono hb0.size)).alloc (hb0.trans (hb1.mono hb0.size)).size _
        obtain ⟨x0, x1⟩ := cells_two (heap_alloc_last w1 (.cells #[.int .i64 0, .int .i64 0] 27))
        clear tok1))
    | (go_at_call 13; have _t := tok2; go_must (
        (with_reducible refine (HK2.out _ hb2).mono ?_)
        rintro e w3 ⟨rfl, hb3⟩
        have hb4 : Below w.heap.size w (w3.alloc (.cells #[.int .i64 0, .int .i64 0] 27)) := (hb2.trans (hb3.mono hb2.size)).alloc (hb2.trans (hb3.mono hb2.size)).size _
        obtain ⟨y0, y1⟩ := cells_two (heap_alloc_last w3 (.cells #[.int .i64 0, .int .i64 0] 27))
        clear tok2))
    | ((with_reducible apply wpList_store_new); (with_reducible rfl); (with_reducible rfl); rfl; rfl; kernel_rfl; rfl; kernel_rfl) | ((with_reducible apply wpList_store_blk); (with_reducible rfl); (with_reducible rfl); rfl; assumption; rfl; kernel_rfl; rfl; kernel_rfl))
  have r4a := heap_past (o' := (.cells #[.int .i64 0, .int .i64 0] 27)) ((hb1.block _ (lt_of_heap HRR.out.1)).trans HRR.out.1)
  have r5a := heap_past (o' := (.cells #[.int .i64 0, .int .i64 0] 27)) ((hb1.block _ (lt_of_heap HRR.out.2)).trans HRR.out.2)
  have r4 := heap_past (o' := (.cells #[.int .i64 0, .int .i64 0] 27)) ((hb3.block _ (lt_of_heap r4a)).trans r4a)
  have r5 := heap_past (o' := (.cells #[.int .i64 0, .int .i64 0] 27)) ((hb3.block _ (lt_of_heap r5a)).trans r5a)
  clear r4a r5a x0 x1 y0 y1 hb2 hb1 hb3 HRR HB0 hb0 HK1 HK2
  generalize (w3.alloc (.cells #[.int .i64 0, .int .i64 0] 27)) = w4 at *
  generalize w1.heap.size = g6 at *
  generalize w3.heap.size = g7 at *
  have hl5 := lt_of_heap r5
  have HB4 := hide_ hb4
  have HR4 := hide_ r4
  have HR5 := hide_ r5
  clear hb4 r4 r5
  go_loopw [46] (fun i wr => ∃ k : Nat, k ≤ n ∧ i = .int .i64 k ∧ Grew w4.heap.size w4 wr) (fun i _ => n - (intOf i).toNat)
  case atStart => exact ⟨0, by omega, rfl, Grew.refl _⟩
  case round =>
    obtain ⟨k, hk, rfl, hgr⟩ := hrel
    have hbw : Below w.heap.size w wr := HB4.out.trans (hgr.below.mono HB4.out.size)
    by_cases hlt : k < n
    · obtain ⟨ga, oa, gb, ob, tk, rfl, rfl, HC⟩ := HTT.out k hlt
      obtain ⟨a2, b2⟩ := HC.out _ hbw
      have i1 : (0 : Int) ≤ (k : Int) := by omega
      have i2 : (k : Int) < (n : Int) := by omega
      have hkn := HL.out
      have hw1 : IntKind.i64.wrap ((k : Int) + 1) = ((k + 1 : Nat) : Int) := by rw [IntWalk.i64_in _ (by omega)]; omega
      have hk1 : k + 1 ≤ n := by omega
      have hk2 : k < k + 1 := by omega
      have ht : (tk != tk) = false := by simp
      clear hkn
      generalize k + 1 = kk at *
      go_wp2
      go_quiet (fail)
      go_wp2
      go_roundw
      case rel => exact ⟨kk, hk1, rfl, hgr.drewN _⟩
      all_goals (simp [intOf]; omega)
    · obtain rfl : k = n := by omega
      have q4 := (hgr.below.block _ (lt_of_heap HR4.out)).trans HR4.out
      have q5 := (hgr.below.block _ (lt_of_heap HR5.out)).trans HR5.out
      have hl4 := hgr.2
      go_wp2
      have HQ4 := hide_ (heap_past (o' := (.cells #[.bool true, .bool false] 4)) (heap_past (o' := (.cells #[.int .i64 0, .bool false, .slice none 0 0, .slice none 0 0, .bool false, .slice none 0 0, .slice none 0 0, .int .i64 0, .bool false, .slice none 0 0, .slice none 0 0, .bool false, .slice none 0 0, .slice none 0 0] 48)) q4))
      have HQ5 := hide_ (heap_past (o' := (.cells #[.bool true, .bool false] 4)) (heap_past (o' := (.cells #[.int .i64 0, .bool false, .slice none 0 0, .slice none 0 0, .bool false, .slice none 0 0, .slice none 0 0, .int .i64 0, .bool false, .slice none 0 0, .slice none 0 0, .bool false, .slice none 0 0, .slice none 0 0] 48)) q5))
      have HQ9 := hide_ (heap_past (o' := (.cells #[.bool true, .bool false] 4)) (heap_alloc_last wr (.cells #[.int .i64 0, .bool false, .slice none 0 0, .slice none 0 0, .bool false, .slice none 0 0, .slice none 0 0, .int .i64 0, .bool false, .slice none 0 0, .slice none 0 0, .bool false, .slice none 0 0, .slice none 0 0] 48)))
      have HQB := hide_ (heap_at1 wr (.cells #[.int .i64 0, .bool false, .slice none 0 0, .slice none 0 0, .bool false, .slice none 0 0, .slice none 0 0, .int .i64 0, .bool false, .slice none 0 0, .slice none 0 0, .bool false, .slice none 0 0, .slice none 0 0] 48) (.cells #[.bool true, .bool false] 4))
      have HBE := hide_ ((hbw.alloc hbw.size (.cells #[.int .i64 0, .bool false, .slice none 0 0, .slice none 0 0, .bool false, .slice none 0 0, .slice none 0 0, .int .i64 0, .bool false, .slice none 0 0, .slice none 0 0, .bool false, .slice none 0 0, .slice none 0 0] 48)).alloc (hbw.alloc hbw.size (.cells #[.int .i64 0, .bool false, .slice none 0 0, .slice none 0 0, .bool false, .slice none 0 0, .slice none 0 0, .int .i64 0, .bool false, .slice none 0 0, .slice none 0 0, .bool false, .slice none 0 0, .slice none 0 0] 48)).size (.cells #[.bool true, .bool false] 4))
      have hl9 : w.heap.size + 1 < wr.heap.size := Nat.lt_of_lt_of_le hl5 hl4
      clear q4 q5 hbw hgr hl4 hl5 HR4 HR5 HB4 HTT hk hlt
      generalize ((wr.alloc (.cells #[.int .i64 0, .bool false, .slice none 0 0, .slice none 0 0, .bool false, .slice none 0 0, .slice none 0 0, .int .i64 0, .bool false, .slice none 0 0, .slice none 0 0, .bool false, .slice none 0 0, .slice none 0 0] 48)).alloc (.cells #[.bool true, .bool false] 4)) = w5 at *
      generalize wr.heap.size = g9 at *
      go_loopw [65] (fun i wr => (Below w.heap.size w wr ∧ wr.heap[w.heap.size]? = some (.cells #[.int .i64 0, .bool false, .slice none 0 0, .slice none 0 0, .bool false, .slice none 0 0, .slice none 0 0, .int .i64 0, .bool false, .slice none 0 0, .slice none 0 0, .bool false, .slice none 0 0, .slice none 0 0] 48) ∧ wr.heap[w.heap.size + 1]? = some (.cells #[.int .i64 0, .int .i64 0] 27) ∧ wr.heap[g9 + 1]? = some (.cells #[.bool true, .bool false] 4)) ∧ ((i = .int .i64 0 ∧ wr.heap[g9]? = some (.cells #[.int .i64 0, .bool false, .slice none 0 0, .slice none 0 0, .bool false, .slice none 0 0, .slice none 0 0, .int .i64 0, .bool false, .slice none 0 0, .slice none 0 0, .bool false, .slice none 0 0, .slice none 0 0] 48)) ∨ (i = .int .i64 1 ∧ ∃ s1 p1 n1 c1 q1 m1 d1 s2 p2 n2 c2 q2 m2 d2, wr.heap[g9]? = some (.cells #[.int .i64 (fitD PT), .bool s1, .slice p1 n1 c1, .slice q1 m1 d1, .bool s2, .slice p2 n2 c2, .slice q2 m2 d2, .int .i64 0, .bool false, .slice none 0 0, .slice none 0 0, .bool false, .slice none 0 0, .slice none 0 0] 48) ∧ Hid (fitE PT = 0 ∧ Fits (fitQ PT) ∧ Fits (fitZ PT) ∧ TwoRO wr w.heap.size (.agg #[.bool s1, .slice p1 n1 c1, .slice q1 m1 d1]) (.agg #[.bool s2, .slice p2 n2 c2, .slice q2 m2 d2]) (Value.slice p1 n1 c1).ownBlock (Value.slice q1 m1 d1).ownBlock (fitQ PT) (fitZ PT))) ∨ (i = .int .i64 2 ∧ ∃ s1 p1 n1 c1 q1 m1 d1 s2 p2 n2 c2 q2 m2 d2 s3 p3 n3 c3 q3 m3 d3 s4 p4 n4 c4 q4 m4 d4, wr.heap[g9]? = some (.cells #[.int .i64 (fitD PT), .bool s1, .slice p1 n1 c1, .slice q1 m1 d1, .bool s2, .slice p2 n2 c2, .slice q2 m2 d2, .int .i64 (fitD PF), .bool s3, .slice p3 n3 c3, .slice q3 m3 d3, .bool s4, .slice p4 n4 c4, .slice q4 m4 d4] 48) ∧ Hid (fitE PT = 0 ∧ fitE PF = 0 ∧ (Fits (fitQ PT) ∧ Fits (fitZ PT) ∧ Fits (fitQ PF) ∧ Fits (fitZ PF)) ∧ ∃ B, TwoRO wr w.heap.size (.agg #[.bool s1, .slice p1 n1 c1, .slice q1 m1 d1]) (.agg #[.bool s2, .slice p2 n2 c2, .slice q2 m2 d2]) (Value.slice p1 n1 c1).ownBlock (Value.slice q1 m1 d1).ownBlock (fitQ PT) (fitZ PT) ∧ w.heap.size ≤ B ∧ (∀ j, (Value.slice p2 n2 c2).ownBlock = some j ∨ (Value.slice q2 m2 d2).ownBlock = some j → j < B) ∧ TwoRO wr B (.agg #[.bool s3, .slice p3 n3 c3, .slice q3 m3 d3]) (.agg #[.bool s4, .slice p4 n4 c4, .slice q4 m4 d4]) (Value.slice p3 n3 c3).ownBlock (Value.slice q3 m3 d3).ownBlock (fitQ PF) (fitZ PF)))))
        (fun i _ => 2 - (intOf i).toNat)
      case atStart => exact ⟨⟨HBE.out, HQ4.out, HQ5.out, HQB.out⟩, .inl ⟨rfl, HQ9.out⟩⟩
      case round =>
        clear HBE HQ4 HQ5 HQB HQ9
        obtain ⟨⟨hbr, hr4, hr5, hrb⟩, hrel⟩ := hrel
        obtain ⟨v0, v1⟩ := cells_two hrb
        rcases hrel with ⟨rfl, h9⟩ | ⟨rfl, h9⟩ | ⟨rfl, h9⟩
        · skip
          by_cases hE : fitE PT = 0
          · go_wp2_with (first
              | (go_at_call 62; go_must (
                  (with_reducible refine (HPT.out _ hbr).mono ?_)
                  rintro e w6 ⟨⟨pp, pc, pq, pd, mm, rfl, hmm, hs1, hs2⟩, hb6⟩))
              | (go_at_call 61; go_must (
                  (with_reducible refine (HFT.out w6 pp pq mm pc pd hmm hs1 hs2).mono ?_)
                  rintro e w7 ⟨⟨D7, s1, p1, n1, c1, q1, m1, d1, s2, p2, n2, c2, q2, m2, d2, er7, rfl, her7, hro7⟩, hb7⟩
                  obtain rfl : er7 = 0 := her7.out.trans hE
                  obtain ⟨rfl, hfq, hfz, hro⟩ := hro7.out hE
                  have HFZ := hide_ (⟨hfq, hfz⟩ : _ ∧ _)
                  have HRO := hide_ hro
                  have hb67 := hb6.trans (hb7.mono hb6.size)
                  obtain ⟨z0, z1, z2, z3, z4, z5, z6⟩ := cells_seven (heap_alloc_last w7 (.cells #[.int .i64 (fitD PT), .bool s1, .slice p1 n1 c1, .slice q1 m1 d1, .bool s2, .slice p2 n2 c2, .slice q2 m2 d2] 46))
                  have h97 := heap_past (o' := .cells #[.int .i64 (fitD PT), .bool s1, .slice p1 n1 c1, .slice q1 m1 d1, .bool s2, .slice p2 n2 c2, .slice q2 m2 d2] 46) ((hb67.block _ (lt_of_heap h9)).trans h9)
                  obtain ⟨⟨y0, y1, y2, y3, y4, y5, y6⟩, y7, y8, y9, y10, y11, y12, y13⟩ := cells_14 h97
                  obtain ⟨x0, x1, x2, x3, x4, x5, x6, x7, x8, x9, x10, x11, x12, x13⟩ := free_14 h97
                  clear hfq hfz hro hro7))
              | ((with_reducible apply wpList_store_new); (with_reducible rfl); (with_reducible rfl); rfl; rfl; kernel_rfl; rfl; kernel_rfl))
            go_roundw
            case rel =>
              have hlr := lt_of_heap hr4
              have hbA := hbr.trans (hb67.mono hbr.size)
              have k4 := heap_past (o' := .cells #[.int .i64 (fitD PT), .bool s1, .slice p1 n1 c1, .slice q1 m1 d1, .bool s2, .slice p2 n2 c2, .slice q2 m2 d2] 46) ((hb67.block _ (lt_of_heap hr4)).trans hr4)
              have k5 := heap_past (o' := .cells #[.int .i64 (fitD PT), .bool s1, .slice p1 n1 c1, .slice q1 m1 d1, .bool s2, .slice p2 n2 c2, .slice q2 m2 d2] 46) ((hb67.block _ (lt_of_heap hr5)).trans hr5)
              have kb := heap_past (o' := .cells #[.int .i64 (fitD PT), .bool s1, .slice p1 n1 c1, .slice q1 m1 d1, .bool s2, .slice p2 n2 c2, .slice q2 m2 d2] 46) ((hb67.block _ (lt_of_heap hrb)).trans hrb)
              rw [set14_lo h97]
              refine ⟨⟨below_setRow (hbA.alloc hbA.size _) (by omega) _, row_other k4 (by omega), row_other k5 (by omega), row_other kb (by omega)⟩, .inr (.inl ⟨rfl, s1, p1, n1, c1, q1, m1, d1, s2, p2, n2, c2, q2, m2, d2, setRow_heap _ _ _ _ _ _ h97, hide_ ⟨hE, HFZ.out.1, HFZ.out.2, ?_⟩⟩)⟩
              obtain ⟨B, u1, u2, u3, u4⟩ := HRO.out
              exact ((show TwoRO w7 w6.heap.size (.agg #[.bool s1, .slice p1 n1 c1, .slice q1 m1 d1]) (.agg #[.bool s2, .slice p2 n2 c2, .slice q2 m2 d2]) (Value.slice p1 n1 c1).ownBlock (Value.slice q1 m1 d1).ownBlock (fitQ PT) (fitZ PT) from ⟨B, u1, u2, u3, u4⟩).mono (Nat.le_trans hbr.size hb6.size) |>.below (below_alloc _ _)).row h97 (by decide) _
            all_goals (simp [intOf])
          · have hb9 : (fitE PT != 0) = true := by simpa using hE
            have HE := hide_ hE
            clear hE
            go_wp2_with (first
              | (go_at_call 62; go_must (
                  (with_reducible refine (HPT.out _ hbr).mono ?_)
                  rintro e w6 ⟨⟨pp, pc, pq, pd, mm, rfl, hmm, hs1, hs2⟩, hb6⟩))
              | (go_at_call 61; go_must (
                  (with_reducible refine (HFT.out w6 pp pq mm pc pd hmm hs1 hs2).mono ?_)
                  rintro e w7 ⟨⟨D7, s5, p5, n5, c5, q5, m5, d5, s6, p6, n6, c6, q6, m6, d6, er7, rfl, her7, hro7⟩, hb7⟩
                  obtain rfl : er7 = fitE PT := her7.out
                  have hb67 := hb6.trans (hb7.mono hb6.size)
                  clear hro7))
              | (go_at_call 55; go_must (
                  (with_reducible refine (fault_any (fitE PT) (-1) _).mono ?_)
                  rintro e w8 ⟨rfl, hb8⟩
                  have hb78 : Below wr.heap.size wr w8 := ((hb67.alloc hb67.size (.cells #[.int .i64 D7, .bool s5, .slice p5 n5 c5, .slice q5 m5 d5, .bool s6, .slice p6 n6 c6, .slice q6 m6 d6] 46))).trans (hb8.mono (hb67.alloc hb67.size _).size)
                  have f4 := (hb78.block _ (lt_of_heap hr4)).trans hr4
                  have f5 := row_other (cs := #[.int .i64 0, .bool false, .slice none 0 0, .slice none 0 0, .bool false, .slice none 0 0, .slice none 0 0, .int .i64 0, .bool false, .slice none 0 0, .slice none 0 0, .bool false, .slice none 0 0, .slice none 0 0]) ((hb78.block _ (lt_of_heap hr5)).trans hr5) (show w.heap.size + 1 ≠ w.heap.size by omega)))
              | ((with_reducible apply wpList_store_new); (with_reducible rfl); (with_reducible rfl); rfl; rfl; kernel_rfl; rfl; kernel_rfl) | ((with_reducible apply wpList_store_blk); (with_reducible rfl); (with_reducible rfl); rfl; assumption; rfl; kernel_rfl; rfl; kernel_rfl))
            refine ret_cc rfl w.heap.size 48 _ _ (w.heap.size + 1) 27 _ _ rfl (row_other (setRow_heap _ _ _ _ _ _ f4) (by omega)) Try.underlying48 rfl (by kernel_rfl) rfl (setRow_heap _ _ _ _ _ _ f5) Try.underlying27 rfl (by kernel_rfl) rfl ?_
            exact ⟨.inl (.inl ⟨HE.out, rfl⟩), below_setRow (below_setRow (hbr.trans (hb78.mono hbr.size)) (Nat.le_refl _) _) (by omega) _⟩
        · obtain ⟨s1, p1, n1, c1, q1, m1, d1, s2, p2, n2, c2, q2, m2, d2, h9, HT⟩ := h9
          by_cases hE : fitE PF = 0
          · go_wp2_with (first
              | (go_at_call 62; go_must (
                  (with_reducible refine (HPF.out _ hbr).mono ?_)
                  rintro e w6 ⟨⟨pp, pc, pq, pd, mm, rfl, hmm, hs1, hs2⟩, hb6⟩))
              | (go_at_call 61; go_must (
                  (with_reducible refine (HFF.out w6 pp pq mm pc pd hmm hs1 hs2).mono ?_)
                  rintro e w7 ⟨⟨D7, s3, p3, n3, c3, q3, m3, d3, s4, p4, n4, c4, q4, m4, d4, er7, rfl, her7, hro7⟩, hb7⟩
                  obtain rfl : er7 = 0 := her7.out.trans hE
                  obtain ⟨rfl, hfq, hfz, hro⟩ := hro7.out hE
                  have HFZ := hide_ (⟨hfq, hfz⟩ : _ ∧ _)
                  have HRO := hide_ hro
                  have hb67 := hb6.trans (hb7.mono hb6.size)
                  obtain ⟨z0, z1, z2, z3, z4, z5, z6⟩ := cells_seven (heap_alloc_last w7 (.cells #[.int .i64 (fitD PF), .bool s3, .slice p3 n3 c3, .slice q3 m3 d3, .bool s4, .slice p4 n4 c4, .slice q4 m4 d4] 46))
                  have h97 := heap_past (o' := .cells #[.int .i64 (fitD PF), .bool s3, .slice p3 n3 c3, .slice q3 m3 d3, .bool s4, .slice p4 n4 c4, .slice q4 m4 d4] 46) ((hb67.block _ (lt_of_heap h9)).trans h9)
                  obtain ⟨⟨y0, y1, y2, y3, y4, y5, y6⟩, y7, y8, y9, y10, y11, y12, y13⟩ := cells_14 h97
                  obtain ⟨x0, x1, x2, x3, x4, x5, x6, x7, x8, x9, x10, x11, x12, x13⟩ := free_14 h97
                  clear hfq hfz hro hro7))
              | ((with_reducible apply wpList_store_new); (with_reducible rfl); (with_reducible rfl); rfl; rfl; kernel_rfl; rfl; kernel_rfl))
            go_roundw
            case rel =>
              have hlr := lt_of_heap hr4
              have hbA := hbr.trans (hb67.mono hbr.size)
              have k4 := heap_past (o' := .cells #[.int .i64 (fitD PF), .bool s3, .slice p3 n3 c3, .slice q3 m3 d3, .bool s4, .slice p4 n4 c4, .slice q4 m4 d4] 46) ((hb67.block _ (lt_of_heap hr4)).trans hr4)
              have k5 := heap_past (o' := .cells #[.int .i64 (fitD PF), .bool s3, .slice p3 n3 c3, .slice q3 m3 d3, .bool s4, .slice p4 n4 c4, .slice q4 m4 d4] 46) ((hb67.block _ (lt_of_heap hr5)).trans hr5)
              have kb := heap_past (o' := .cells #[.int .i64 (fitD PF), .bool s3, .slice p3 n3 c3, .slice q3 m3 d3, .bool s4, .slice p4 n4 c4, .slice q4 m4 d4] 46) ((hb67.block _ (lt_of_heap hrb)).trans hrb)
              rw [set14_hi h97]
              refine ⟨⟨below_setRow (hbA.alloc hbA.size _) (by omega) _, row_other k4 (by omega), row_other k5 (by omega), row_other kb (by omega)⟩, .inr (.inr ⟨rfl, s1, p1, n1, c1, q1, m1, d1, s2, p2, n2, c2, q2, m2, d2, s3, p3, n3, c3, q3, m3, d3, s4, p4, n4, c4, q4, m4, d4, setRow_heap _ _ _ _ _ _ h97, hide_ ⟨HT.out.1, hE, ⟨HT.out.2.1, HT.out.2.2.1, HFZ.out.1, HFZ.out.2⟩, w6.heap.size, ?_, Nat.le_trans hbr.size hb6.size, ?_, ?_⟩⟩)⟩
              · exact (HT.out.2.2.2.below (hb67.trans ((below_alloc _ _).mono hb67.size))).row h97 (by decide) _
              · intro j hj
                obtain ⟨B, u1, u2, u3, u4⟩ := HT.out.2.2.2
                exact Nat.lt_of_lt_of_le (u4.blk_lt j hj) hb6.size
              · obtain ⟨B, u1, u2, u3, u4⟩ := HRO.out
                exact ((show TwoRO w7 w6.heap.size (.agg #[.bool s3, .slice p3 n3 c3, .slice q3 m3 d3]) (.agg #[.bool s4, .slice p4 n4 c4, .slice q4 m4 d4]) (Value.slice p3 n3 c3).ownBlock (Value.slice q3 m3 d3).ownBlock (fitQ PF) (fitZ PF) from ⟨B, u1, u2, u3, u4⟩).below (below_alloc _ _)).row h97 (by decide) _
            all_goals (simp [intOf])
          · have hb9 : (fitE PF != 0) = true := by simpa using hE
            have HE := hide_ hE
            clear hE
            go_wp2_with (first
              | (go_at_call 62; go_must (
                  (with_reducible refine (HPF.out _ hbr).mono ?_)
                  rintro e w6 ⟨⟨pp, pc, pq, pd, mm, rfl, hmm, hs1, hs2⟩, hb6⟩))
              | (go_at_call 61; go_must (
                  (with_reducible refine (HFF.out w6 pp pq mm pc pd hmm hs1 hs2).mono ?_)
                  rintro e w7 ⟨⟨D7, s5, p5, n5, c5, q5, m5, d5, s6, p6, n6, c6, q6, m6, d6, er7, rfl, her7, hro7⟩, hb7⟩
                  obtain rfl : er7 = fitE PF := her7.out
                  have hb67 := hb6.trans (hb7.mono hb6.size)
                  clear hro7))
              | (go_at_call 55; go_must (
                  (with_reducible refine (fault_any (fitE PF) (-1) _).mono ?_)
                  rintro e w8 ⟨rfl, hb8⟩
                  have hb78 : Below wr.heap.size wr w8 := ((hb67.alloc hb67.size (.cells #[.int .i64 D7, .bool s5, .slice p5 n5 c5, .slice q5 m5 d5, .bool s6, .slice p6 n6 c6, .slice q6 m6 d6] 46))).trans (hb8.mono (hb67.alloc hb67.size _).size)
                  have f4 := (hb78.block _ (lt_of_heap hr4)).trans hr4
                  have f5 := row_other (cs := #[.int .i64 0, .bool false, .slice none 0 0, .slice none 0 0, .bool false, .slice none 0 0, .slice none 0 0, .int .i64 0, .bool false, .slice none 0 0, .slice none 0 0, .bool false, .slice none 0 0, .slice none 0 0]) ((hb78.block _ (lt_of_heap hr5)).trans hr5) (show w.heap.size + 1 ≠ w.heap.size by omega)))
              | ((with_reducible apply wpList_store_new); (with_reducible rfl); (with_reducible rfl); rfl; rfl; kernel_rfl; rfl; kernel_rfl) | ((with_reducible apply wpList_store_blk); (with_reducible rfl); (with_reducible rfl); rfl; assumption; rfl; kernel_rfl; rfl; kernel_rfl))
            refine ret_cc rfl w.heap.size 48 _ _ (w.heap.size + 1) 27 _ _ rfl (row_other (setRow_heap _ _ _ _ _ _ f4) (by omega)) Try.underlying48 rfl (by kernel_rfl) rfl (setRow_heap _ _ _ _ _ _ f5) Try.underlying27 rfl (by kernel_rfl) rfl ?_
            exact ⟨.inl (.inr ⟨HT.out.1, HE.out, rfl⟩), below_setRow (below_setRow (hbr.trans (hb78.mono hbr.size)) (Nat.le_refl _) _) (by omega) _⟩
        · obtain ⟨s1, p1, n1, c1, q1, m1, d1, s2, p2, n2, c2, q2, m2, d2, s3, p3, n3, c3, q3, m3, d3, s4, p4, n4, c4, q4, m4, d4, h9, HT⟩ := h9
          obtain ⟨⟨y0, y1, y2, y3, y4, y5, y6⟩, y7, y8, y9, y10, y11, y12, y13⟩ := cells_14 h9
          have f5 := row_other (cs := #[.int .i64 (fitD PT), .bool s1, .slice p1 n1 c1, .slice q1 m1 d1, .bool s2, .slice p2 n2 c2, .slice q2 m2 d2, .int .i64 (fitD PF), .bool s3, .slice p3 n3 c3, .slice q3 m3 d3, .bool s4, .slice p4 n4 c4, .slice q4 m4 d4]) hr5 (show w.heap.size + 1 ≠ w.heap.size by omega)
          go_wp2_with ((with_reducible apply wpList_store_blk); (with_reducible rfl); (with_reducible rfl); rfl; assumption; rfl; kernel_rfl; rfl; kernel_rfl)
          refine ret_cc rfl w.heap.size 48 _ _ (w.heap.size + 1) 27 _ _ rfl (row_other (setRow_heap _ _ _ _ _ _ hr4) (by omega)) Try.underlying48 rfl (by kernel_rfl) rfl (setRow_heap _ _ _ _ _ _ f5) Try.underlying27 rfl (by kernel_rfl) rfl ?_
          obtain ⟨e1, e2, e3, B, t1, t2, t3, t4⟩ := HT.out
          exact ⟨.inr ⟨e1, e2, s1, p1, n1, c1, q1, m1, d1, s2, p2, n2, c2, q2, m2, d2, s3, p3, n3, c3, q3, m3, d3, s4, p4, n4, c4, q4, m4, d4, rfl, hide_ e3, B, (t1.row hr4 (by decide) _).row f5 (by decide) _, t2, t3, (t4.row hr4 (by decide) _).row f5 (by decide) _⟩, below_setRow (below_setRow hbr (Nat.le_refl _) _) (by omega) _⟩
end Go.Proofs.Ytcibbnphkpaifaa
