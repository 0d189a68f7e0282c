/- second.Apply: the walk through the waters. -/
import Derived.Test.YtcibbnphkpaifaaSw
import Derived.Deep.DeepCutAuto
namespace Go.Proofs.Ytcibbnphkpaifaa
open Go.RowKit
set_option linter.unusedVariables false
set_option maxRecDepth 100000
def ResW (w : World) (Q : List Qw) (f : Int × Int) (e : Ending) (w' : World) : Prop := ((f.1 = 0 ∧ ∃ v Z, e = .returned (.tuple #[v, .agg #[.int .i64 0, .int .i64 0]]) ∧ OWs w' w.heap.size v Z ∧ Z.map Ze.qw = Q) ∨ (f.1 ≠ 0 ∧ e = .returned (.tuple #[.slice none 0 0, .agg #[.int .i64 f.1, .int .i64 f.2]]))) ∧ Below w.heap.size w w'
theorem RO.shape {w : World} {base : Nat} {s : Bool} {p q : Option Addr} {n c m d : Nat} {x : Rat} (h : RO w base (.agg #[.bool s, .slice p n c, .slice q m d]) x) : s = rneg x ∧ n = (rn x).length ∧ m = (rd x).length := by
  obtain ⟨p', c', q', d', e, _⟩ := h
  simp only [Value.agg.injEq, Array.mk.injEq, List.cons.injEq, Value.slice.injEq, Value.bool.injEq] at e
  obtain ⟨e1, ⟨_, e2, _⟩, ⟨_, e3, _⟩, _⟩ := e
  exact ⟨e1, e2, e3⟩
/-- What Apply tells of sound waters and differences. -/
def appF (L : List Wt) (d : Df) : Int × Int := if (applyE d 0 L).1 ≠ 0 then applyE d 0 L else if (checkW none 0 ((L.map (tW d)).map toWt)).1 ≠ 0 then (370, (checkW none 0 ((L.map (tW d)).map toWt)).2) else (0, 0)
set_option maxHeartbeats 25600000 in
theorem apply_main (p : Option Addr) (n c : Nat) (L : List Wt) (d : Df) (p1 q1 p2 q2 p3 q3 p4 q4 : Option Addr) (c1 d1 c2 d2 c3 d3 c4 d4 : Nat) (w : World) (hn : n = L.length) (hp : WSl w p L) (hl : n ≤ 4096) (hs : Snd L) (hd : DfV w d p1 c1 q1 d1 p2 c2 q2 d2 p3 c3 q3 d3 p4 c4 q4 d4) (hc : d.chk = 0) :
    Calls Try.prog 22 #[.slice p n c, .agg #[.int .i64 d.ka, .bool d.x1.neg, .slice p1 d.x1.A.length c1, .slice q1 d.x1.D.length d1, .bool d.x2.neg, .slice p2 d.x2.A.length c2, .slice q2 d.x2.D.length d2, .int .i64 d.kb, .bool d.x3.neg, .slice p3 d.x3.A.length c3, .slice q3 d.x3.D.length d3, .bool d.x4.neg, .slice p4 d.x4.A.length c4, .slice q4 d.x4.D.length d4]] w (ResW w (L.map (tW d)) (appF L d)) := by
  subst hn
  have HK := hide_ (fun W (h : Below w.heap.size w W) => checkW_any p L.length c L W rfl (hp.below h) hl)
  rw [hs.zero] at HK
  have HD := hide_ (fun W (h : Below w.heap.size w W) => (show Calls Try.prog 29 #[.agg #[.int .i64 d.ka, .bool d.x1.neg, .slice p1 d.x1.A.length c1, .slice q1 d.x1.D.length d1, .bool d.x2.neg, .slice p2 d.x2.A.length c2, .slice q2 d.x2.D.length d2, .int .i64 d.kb, .bool d.x3.neg, .slice p3 d.x3.A.length c3, .slice q3 d.x3.D.length d3, .bool d.x4.neg, .slice p4 d.x4.A.length c4, .slice q4 d.x4.D.length d4]] W fun e w' => e = .returned (.int .i64 d.chk) ∧ Below W.heap.size W w' from dcheck_any d.ka d.kb d.x1 d.x2 d.x3 d.x4 p1 q1 p2 q2 p3 q3 p4 q4 c1 d1 c2 d2 c3 d3 c4 d4 W (RG.below hd.1 h) (RG.below hd.2.1 h) (RG.below hd.2.2.1 h) (RG.below hd.2.2.2 h)))
  rw [hc] at HD
  have HPK := hide_ (fun top W => pick_df d top p1 q1 p2 q2 p3 q3 p4 q4 c1 d1 c2 d2 c3 d3 c4 d4 w W hd hc)
  have HP := hide_ hp
  have HSN := hide_ hs
  have HCK := hide_ (chk_zero hc).1
  have HL := hide_ hl
  clear hp hl hs hd hc
  have hb0 : Below w.heap.size w ((w.alloc (.cells #[.int .i64 d.ka, .bool d.x1.neg, .slice p1 d.x1.A.length c1, .slice q1 d.x1.D.length d1, .bool d.x2.neg, .slice p2 d.x2.A.length c2, .slice q2 d.x2.D.length d2, .int .i64 d.kb, .bool d.x3.neg, .slice p3 d.x3.A.length c3, .slice q3 d.x3.D.length d3, .bool d.x4.neg, .slice p4 d.x4.A.length c4, .slice q4 d.x4.D.length d4] 48)).alloc (.cells #[.int .i64 0, .int .i64 0] 27)) := (below_alloc _ _).alloc (by simp) _
  have HR1 := hide_ (heap_past (o' := (.cells #[.int .i64 0, .int .i64 0] 27)) (heap_alloc_last w (.cells #[.int .i64 d.ka, .bool d.x1.neg, .slice p1 d.x1.A.length c1, .slice q1 d.x1.D.length d1, .bool d.x2.neg, .slice p2 d.x2.A.length c2, .slice q2 d.x2.D.length d2, .int .i64 d.kb, .bool d.x3.neg, .slice p3 d.x3.A.length c3, .slice q3 d.x3.D.length d3, .bool d.x4.neg, .slice p4 d.x4.A.length c4, .slice q4 d.x4.D.length d4] 48)))
  have HR2 := hide_ (heap_at1 w (.cells #[.int .i64 d.ka, .bool d.x1.neg, .slice p1 d.x1.A.length c1, .slice q1 d.x1.D.length d1, .bool d.x2.neg, .slice p2 d.x2.A.length c2, .slice q2 d.x2.D.length d2, .int .i64 d.kb, .bool d.x3.neg, .slice p3 d.x3.A.length c3, .slice q3 d.x3.D.length d3, .bool d.x4.neg, .slice p4 d.x4.A.length c4, .slice q4 d.x4.D.length d4] 48) (.cells #[.int .i64 0, .int .i64 0] 27))
  obtain ⟨i0, hi, hz0, hz1, hz2⟩ := info_parts info_W
  go_enter Try.func22, Try.ntmps22
  go_wp2_with (first
    | (go_at_call 13; go_must (
        (with_reducible refine (HK.out _ hb0).mono ?_)
        rintro e w1 ⟨rfl, hb1⟩
        have r1 := heap_past (o' := .cells #[.int .i64 0, .int .i64 0] 27) ((hb1.block _ (lt_of_heap HR1.out)).trans HR1.out)
        have r2 := heap_past (o' := .cells #[.int .i64 0, .int .i64 0] 27) ((hb1.block _ (lt_of_heap HR2.out)).trans HR2.out)
        have hb2 : Below w.heap.size w (w1.alloc (.cells #[.int .i64 0, .int .i64 0] 27)) := (hb0.trans (hb1.mono hb0.size)).alloc (hb0.trans (hb1.mono hb0.size)).size _
        obtain ⟨x0, x1⟩ := cells_two (heap_alloc_last w1 (.cells #[.int .i64 0, .int .i64 0] 27))
        obtain ⟨⟨e0, e1, e2, e3, e4, e5, e6⟩, e7, e8, e9, f0, f1, f2, f3⟩ := cells_14 r1))
    | (go_at_call 29; go_must (
        (with_reducible refine (HD.out _ hb2).mono ?_)
        rintro e w2 ⟨rfl, hb3⟩
        have hb4 := hb2.trans (hb3.mono hb2.size)
        have r4 := (hb3.block _ (lt_of_heap r2)).trans r2
        have r3 := (hb3.block _ (lt_of_heap r1)).trans r1
        clear r2 r1 e0 e1 e2 e3 e4 e5 e6 e7 e8 e9 f0 f1 f2 f3 x0 x1 hb0))
    | ((with_reducible apply wpList_store_new); (with_reducible rfl); (with_reducible rfl); rfl; rfl; kernel_rfl; rfl; kernel_rfl) | ((with_reducible apply wpList_store_blk); (with_reducible rfl); (with_reducible rfl); rfl; assumption; rfl; kernel_rfl; rfl; kernel_rfl))
  have HRD := hide_ r3
  have HRF := hide_ r4
  have hlt : w.heap.size + 1 < w2.heap.size := lt_of_heap r4
  have HB2 := hide_ hb4
  clear r3 r4 hb4 hb3 hb2 hb1 HR1 HR2 HD
  go_loopw [8, 28] (fun ov kv wr => ∃ Z, Z.length ≤ L.length ∧ kv = .int .i64 (Z.length : Int) ∧ OWs wr w2.heap.size ov Z ∧ Hid (Z.map Ze.qw = (L.take Z.length).map (tW d)) ∧ Hid (applyE d 0 L = applyE d Z.length (L.drop Z.length)) ∧ Grew w2.heap.size w2 wr) (fun _ kv _ => L.length - (intOf kv).toNat)
  case atStart => exact ⟨[], Nat.zero_le _, rfl, OWs.nil _ _, hide_ rfl, hide_ rfl, Grew.refl _⟩
  case round =>
    obtain ⟨Z, hk, rfl, hO, HH, HG, hgr⟩ := hrel
    obtain ⟨p', c', rfl⟩ := row_slice hO.1
    have HW := hide_ hgr
    have HBW := hide_ (show Below w.heap.size w wr from HB2.out.trans (hgr.below.mono HB2.out.size))
    have HRR := hide_ ((hgr.below.block _ hlt).trans HRF.out)
    have HO := hide_ hO
    have hl2 : w2.heap.size ≤ wr.heap.size := hgr.2
    clear hO
    by_cases h0 : Z.length = L.length
    · have HZ := hide_ h0
      have hap := hide_ (show applyE d 0 L = (0, 0) from by rw [HG.out, h0, List.drop_length]; rfl)
      have HQ := hide_ (show Z.map Ze.qw = L.map (tW d) from by rw [HH.out, h0, List.take_length])
      have HKC := hide_ (checkW_any p' Z.length c' (Z.map Ze.wt) wr (by simp) HO.out.wsl (by have := HL.out; omega))
      have HWQ := hide_ (show Z.map Ze.wt = (L.map (tW d)).map toWt from by rw [wt_qw, HQ.out])
      have z1 : decide ((Z.length : Int) < (L.length : Int)) = false := decide_eq_false (by omega)
      have z2 : ¬ ((Z.length : Int) < (L.length : Int)) := by omega
      have z3 : ¬ (Z.length < L.length) := by omega
      have hrr := HRR.out
      clear hgr h0 hk
      by_cases hE : (checkW none 0 (Z.map Ze.wt)).1 = 0
      · have hz := (snd_of hE).zero
        rw [hz] at HKC
        have HE := hide_ hE
        clear hE hz
        go_wp2_with (first
          | (go_at_call 13; go_must (
              (with_reducible refine (HKC.out).mono ?_)
              rintro e w6 ⟨rfl, hb6⟩
              have r6 := heap_past (o' := .cells #[.int .i64 0, .int .i64 0] 27) ((hb6.block _ (lt_of_heap hrr)).trans hrr)
              have HB6 := hide_ hb6
              obtain ⟨x0, x1⟩ := cells_two (heap_alloc_last w6 (.cells #[.int .i64 0, .int .i64 0] 27))
              clear hrr))
          | ((with_reducible apply wpList_store_new); (with_reducible rfl); (with_reducible rfl); rfl; rfl; kernel_rfl; rfl; kernel_rfl) | ((with_reducible apply wpList_store_blk); (with_reducible rfl); (with_reducible rfl); rfl; assumption; rfl; kernel_rfl; rfl; kernel_rfl))
        refine ret_tc rfl (w.heap.size + 1) 27 _ _ rfl (setRow_heap _ _ _ _ _ _ r6) Try.underlying27 rfl (by kernel_rfl) rfl ?_
        have h2 : appF L d = (0, 0) := by
          unfold appF
          rw [hap.out, if_neg (by simp), ← HWQ.out, if_neg (by rw [HE.out]; simp)]
        rw [h2]
        have hb7 : Below wr.heap.size wr (w6.alloc (.cells #[.int .i64 0, .int .i64 0] 27)) := HB6.out.alloc HB6.out.size _
        have hO7 := HO.out.below hb7
        refine ⟨.inl ⟨rfl, _, Z, rfl, ?_, HQ.out⟩, below_setRow (HBW.out.trans (hb7.mono HBW.out.size)) (by omega) _⟩
        refine ⟨?_, ?_⟩
        · refine ownsRow_base_a (hO7.1.kept (grown_setRow _ (w.heap.size + 1) _) ?_) (by omega)
          cases ho : (Value.slice p' Z.length c').ownBlock with
          | none => exact .inl rfl
          | some j => exact .inr (fun e => by injection e with e; subst e; have := (World.ownsRow.lt hO7.1 _ ho).1; omega)
        · exact ⟨fun z hz => ⟨((hO7.2.1 z hz).1.stored (W := w) hlt).mono (by omega), (hO7.2.1 z hz).2⟩, hO7.2.2⟩
      · have b1 : ((checkW none 0 (Z.map Ze.wt)).1 != 0) = true := by simpa using hE
        have HE := hide_ hE
        clear hE
        have h2 : appF L d = (370, (checkW none 0 (Z.map Ze.wt)).2) := by
          unfold appF
          rw [hap.out, if_neg (by simp), ← HWQ.out, if_pos HE.out]
        have H2 := hide_ h2
        clear h2
        generalize (checkW none 0 (Z.map Ze.wt)).1 = a at *
        generalize (checkW none 0 (Z.map Ze.wt)).2 = b at *
        have HFA := hide_ (fun W => fault_any 370 b W)
        go_wp2_with (first
          | (go_at_call 13; go_must (
              (with_reducible refine (HKC.out).mono ?_)
              rintro e w6 ⟨rfl, hb6⟩
              have r6 := heap_past (o' := .cells #[.int .i64 a, .int .i64 b] 27) ((hb6.block _ (lt_of_heap hrr)).trans hrr)
              have HB6 := hide_ (hb6.alloc hb6.size (.cells #[.int .i64 a, .int .i64 b] 27))
              obtain ⟨x0, x1⟩ := cells_two (heap_alloc_last w6 (.cells #[.int .i64 a, .int .i64 b] 27))
              clear hrr))
          | (go_at_call 55; go_must (
              (with_reducible refine (HFA.out _).mono ?_)
              rintro e w7 ⟨rfl, hb7⟩
              have r7 := (hb7.block _ (lt_of_heap r6)).trans r6
              clear r6))
          | ((with_reducible apply wpList_store_new); (with_reducible rfl); (with_reducible rfl); rfl; rfl; kernel_rfl; rfl; kernel_rfl) | ((with_reducible apply wpList_store_blk); (with_reducible rfl); (with_reducible rfl); rfl; assumption; rfl; kernel_rfl; rfl; kernel_rfl))
        refine ret_tc rfl (w.heap.size + 1) 27 _ _ rfl (setRow_heap _ _ _ _ _ _ r7) Try.underlying27 rfl (by kernel_rfl) rfl ?_
        rw [H2.out]
        have hb8 := HBW.out.trans (HB6.out.mono HBW.out.size)
        exact ⟨.inr ⟨(by decide : (370 : Int) ≠ 0), rfl⟩, below_setRow (hb8.trans (hb7.mono hb8.size)) (by omega) _⟩
    · have hk1 : Z.length < L.length := by omega
      obtain ⟨g, o, rfl⟩ : ∃ g o, p = some ⟨g, o, none⟩ := by
        rcases HP.out with ⟨_, h⟩ | ⟨g, o, e, _⟩
        · subst h; cases hk1
        · exact ⟨g, o, e⟩
      obtain ⟨hg, pk, ck, qk, dk, ⟨k0, k1, k2, k3, k4, k5⟩, hrk⟩ := (HP.out.below HBW.out).at hk1
      have h1K := HSN.out.one hk1
      have hrv := hrk.rv h1K.2.2.2
      have z1 : decide ((Z.length : Int) < (L.length : Int)) = true := decide_eq_true (by omega)
      have i4 : (0 : Int) ≤ (Z.length : Int) := by omega
      have i5 : (Z.length : Int) < (L.length : Int) := by omega
      have hw : IntKind.i64.wrap ((Z.length : Int) + 1) = ((Z.length + 1 : Nat) : Int) := by have := HL.out; rw [IntWalk.i64_in _ (by omega)]; omega
      have hbA := below_alloc wr (.cells #[.int .i64 L[Z.length].t, .int .i64 L[Z.length].l, .bool L[Z.length].top, .bool L[Z.length].neg, .slice pk L[Z.length].A.length ck, .slice qk L[Z.length].D.length dk] 34)
      have hrA := heap_alloc_last wr (.cells #[.int .i64 L[Z.length].t, .int .i64 L[Z.length].l, .bool L[Z.length].top, .bool L[Z.length].neg, .slice pk L[Z.length].A.length ck, .slice qk L[Z.length].D.length dk] 34)
      have HTD := hide_ (fun s2 p2 n2 c2 q2 m2 d2 s3 p3 n3 c3 q3 m3 d3 W (h : Below wr.heap.size wr W) (h1 : RV W (.agg #[.bool s2, .slice p2 n2 c2, .slice q2 m2 d2]) (d.f L[Z.length].top)) (h2 : RV W (.agg #[.bool s3, .slice p3 n3 c3, .slice q3 m3 d3]) (d.z L[Z.length].top)) => (show Calls Try.prog 58 _ W (fun e w' => (∃ t' l' top' s p n c q m d', e = .returned (.tuple #[.agg #[.int .i64 t', .int .i64 l', .bool top', .bool s, .slice p n c, .slice q m d'], .int .i64 (tE d L[Z.length])]) ∧ (tE d L[Z.length] = 0 → t' = (tW d L[Z.length]).1 ∧ l' = (tW d L[Z.length]).2.1 ∧ top' = (tW d L[Z.length]).2.2.1 ∧ RO w' W.heap.size (.agg #[.bool s, .slice p n c, .slice q m d']) (tW d L[Z.length]).2.2.2)) ∧ Below W.heap.size W w') from
        told_any L[Z.length].t L[Z.length].l (d.k L[Z.length].top) L[Z.length].top L[Z.length].neg s2 s3 pk qk p2 q2 p3 q3 L[Z.length].A.length ck L[Z.length].D.length dk n2 c2 m2 d2 n3 c3 m3 d3 L[Z.length].h (d.f L[Z.length].top) (d.z L[Z.length].top) W (by omega) (by omega) (HCK.out _) (hrv.below h) h1 h2))
      have HFT := hide_ (show tE d L[Z.length] = 0 → Fits (tW d L[Z.length]).2.2.2 from fun h => told_fits h)
      have HPT := hide_ (fun W => HPK.out L[Z.length].top W)
      have HST := hide_ (applyE_step (d := d) hk1)
      have HTK := hide_ (show (L.take (Z.length + 1)).map (tW d) = (L.take Z.length).map (tW d) ++ [tW d L[Z.length]] from by rw [List.take_succ_eq_append_getElem hk1, List.map_append]; rfl)
      have HBD := hide_ (fun W (h : Below (wr.alloc (.cells #[.int .i64 L[Z.length].t, .int .i64 L[Z.length].l, .bool L[Z.length].top, .bool L[Z.length].neg, .slice pk L[Z.length].A.length ck, .slice qk L[Z.length].D.length dk] 34)).heap.size (wr.alloc (.cells #[.int .i64 L[Z.length].t, .int .i64 L[Z.length].l, .bool L[Z.length].top, .bool L[Z.length].neg, .slice pk L[Z.length].A.length ck, .slice qk L[Z.length].D.length dk] 34)) W) => (show W.heap[w.heap.size]? = some (.cells #[.int .i64 d.ka, .bool d.x1.neg, .slice p1 d.x1.A.length c1, .slice q1 d.x1.D.length d1, .bool d.x2.neg, .slice p2 d.x2.A.length c2, .slice q2 d.x2.D.length d2, .int .i64 d.kb, .bool d.x3.neg, .slice p3 d.x3.A.length c3, .slice q3 d.x3.D.length d3, .bool d.x4.neg, .slice p4 d.x4.A.length c4, .slice q4 d.x4.D.length d4] 48) from ((below_alloc _ _).trans (h.mono (by simp))).block _ (by omega) |>.trans ((hgr.below.block _ (by omega)).trans HRD.out)))
      have HBR := hide_ (fun W (h : Below (wr.alloc (.cells #[.int .i64 L[Z.length].t, .int .i64 L[Z.length].l, .bool L[Z.length].top, .bool L[Z.length].neg, .slice pk L[Z.length].A.length ck, .slice qk L[Z.length].D.length dk] 34)).heap.size (wr.alloc (.cells #[.int .i64 L[Z.length].t, .int .i64 L[Z.length].l, .bool L[Z.length].top, .bool L[Z.length].neg, .slice pk L[Z.length].A.length ck, .slice qk L[Z.length].D.length dk] 34)) W) => (h.block _ (lt_of_heap hrA)).trans hrA)
      have HOA := hide_ (HO.out.below hbA)
      have HWA := hide_ (HW.out.step hbA)
      have HRA := hide_ (heap_past (o' := (.cells #[.int .i64 L[Z.length].t, .int .i64 L[Z.length].l, .bool L[Z.length].top, .bool L[Z.length].neg, .slice pk L[Z.length].A.length ck, .slice qk L[Z.length].D.length dk] 34)) HRR.out)
      clear hrv hrk h1K hgr HPK HCK
      generalize tE d L[Z.length] = E at *
      generalize tW d L[Z.length] = Q at *
      generalize d.f L[Z.length].top = df at *
      generalize d.z L[Z.length].top = dz at *
      generalize d.k L[Z.length].top = dk' at *
      generalize L[Z.length].A.length = nk at *
      generalize L[Z.length].D.length = mk at *
      generalize L[Z.length].neg = sk at *
      generalize L[Z.length].t = tk at *
      generalize L[Z.length].l = lk at *
      generalize L[Z.length].top = topk at *
      go_upto_region 11 with (first | ((with_reducible apply wpList_store_new); (with_reducible rfl); (with_reducible rfl); rfl; rfl; kernel_rfl; rfl; kernel_rfl) | ((with_reducible apply wpList_store_blk); (with_reducible rfl); (with_reducible rfl); rfl; assumption; rfl; kernel_rfl; rfl; kernel_rfl))
      generalize hwA : (wr.alloc (.cells #[.int .i64 tk, .int .i64 lk, .bool topk, .bool sk, .slice pk nk ck, .slice qk mk dk] 34)) = wA at *
      have hsA : wr.heap.size < wA.heap.size := by rw [← hwA]; simp
      clear hwA
      generalize hbk : wr.heap.size = B at *
      have hdA : Below wA.heap.size wA wA.drew := (Below.refl _ _).drew
      have hdz : Below wA.heap.size wA (wA.alloc (.cells #[.int .i64 0, .int .i64 0, .bool false, .bool false, .slice none 0 0, .slice none 0 0] 34)).drew := (below_alloc _ _).drew
      have HC := hide_ (fun W (h : Below wA.heap.size wA W) => (⟨cells_six (HBR.out W h), cells_14 (HBD.out W h)⟩ : _ ∧ _))
      have HRVs := hide_ (fun s2 p2 n2 c2 q2 m2 d2 s3 p3 n3 c3 q3 m3 d3 W (h : Below wA.heap.size wA W) (hh : RV w (.agg #[.bool s2, .slice p2 n2 c2, .slice q2 m2 d2]) df ∧ RV w (.agg #[.bool s3, .slice p3 n3 c3, .slice q3 m3 d3]) dz) => HTD.out s2 p2 n2 c2 q2 m2 d2 s3 p3 n3 c3 q3 m3 d3 W (hbA.trans (h.mono (Nat.le_of_lt hsA))) (hh.1.below (HBW.out.trans ((hbA.trans (h.mono (Nat.le_of_lt hsA))).mono (by have := HBW.out.size; omega)))) (hh.2.below (HBW.out.trans ((hbA.trans (h.mono (Nat.le_of_lt hsA))).mono (by have := HBW.out.size; omega)))))
      rw [show ∀ (a : Act), a.put none undef = a from fun _ => rfl]
      go_cut [11, 12] (fun s11 s12 wx => RowT wA wx E Q s11 s12)
      case first =>
        go_region_held3 (fun w' => (w'.cell? ⟨B, 0, none⟩ = some (.int .i64 tk) ∧ w'.cell? ⟨B, 1, none⟩ = some (.int .i64 lk) ∧ w'.cell? ⟨B, 2, none⟩ = some (.bool topk) ∧ w'.cell? ⟨B, 3, none⟩ = some (.bool sk) ∧ w'.cell? ⟨B, 4, none⟩ = some (.slice pk nk ck) ∧ w'.cell? ⟨B, 5, none⟩ = some (.slice qk mk dk)) ∧ (w'.cell? ⟨w.heap.size, 0, none⟩ = some (.int .i64 d.ka) ∧ w'.cell? ⟨w.heap.size, 1, none⟩ = some (.bool d.x1.neg) ∧ w'.cell? ⟨w.heap.size, 2, none⟩ = some (.slice p1 d.x1.A.length c1) ∧ w'.cell? ⟨w.heap.size, 3, none⟩ = some (.slice q1 d.x1.D.length d1) ∧ w'.cell? ⟨w.heap.size, 4, none⟩ = some (.bool d.x2.neg) ∧ w'.cell? ⟨w.heap.size, 5, none⟩ = some (.slice p2 d.x2.A.length c2) ∧ w'.cell? ⟨w.heap.size, 6, none⟩ = some (.slice q2 d.x2.D.length d2)) ∧ w'.cell? ⟨w.heap.size, 7, none⟩ = some (.int .i64 d.kb) ∧ w'.cell? ⟨w.heap.size, 8, none⟩ = some (.bool d.x3.neg) ∧ w'.cell? ⟨w.heap.size, 9, none⟩ = some (.slice p3 d.x3.A.length c3) ∧ w'.cell? ⟨w.heap.size, 10, none⟩ = some (.slice q3 d.x3.D.length d3) ∧ w'.cell? ⟨w.heap.size, 11, none⟩ = some (.bool d.x4.neg) ∧ w'.cell? ⟨w.heap.size, 12, none⟩ = some (.slice p4 d.x4.A.length c4) ∧ w'.cell? ⟨w.heap.size, 13, none⟩ = some (.slice q4 d.x4.D.length d4))
          (first | (exact HC.out _ (by assumption)) | go_keep)
          ((first
            | (go_at_call 59
               (with_reducible refine (HPT.out ((wA.alloc (.cells #[.int .i64 0, .int .i64 0, .bool false, .bool false, .slice none 0 0, .slice none 0 0] 34)).drew)).mono ?_)
               rintro e w3 ⟨⟨s2, p2', n2, c2', q2', m2, d2', s3, p3', n3, c3', q3', m3, d3', rfl, hrs⟩, hb3⟩
               have hB3 : Below wA.heap.size wA w3 := hdz.trans (hb3.mono hdz.size)
               have hzb : w3.heap[wA.heap.size]? = some (.cells #[.int .i64 0, .int .i64 0, .bool false, .bool false, .slice none 0 0, .slice none 0 0] 34) := (hb3.block _ (lt_of_heap (heap_alloc_last wA (.cells #[.int .i64 0, .int .i64 0, .bool false, .bool false, .slice none 0 0, .slice none 0 0] 34)))).trans (heap_alloc_last wA (.cells #[.int .i64 0, .int .i64 0, .bool false, .bool false, .slice none 0 0, .slice none 0 0] 34)))
            | (go_at_call 59; go_must (
               (with_reducible refine (HPT.out _).mono ?_)
               rintro e w3 ⟨⟨s2, p2', n2, c2', q2', m2, d2', s3, p3', n3, c3', q3', m3, d3', rfl, hrs⟩, hb3⟩
               have hB3 : Below wA.heap.size wA w3 := hdA.trans (hb3.mono hdA.size)
               have hB3z : Below wA.heap.size wA (w3.alloc (.cells #[.int .i64 0, .int .i64 0, .bool false, .bool false, .slice none 0 0, .slice none 0 0] 34)) := hB3.alloc hB3.size _))
            | (go_at_call 58
               (with_reducible refine (HRVs.out _ _ _ _ _ _ _ _ _ _ _ _ _ _ w3 hB3 hrs.out).mono ?_)
               rintro e w4 ⟨⟨t5, l5, o5, s5, p5, n5, c5, q5, m5, d5, rfl, ho5⟩, hb4⟩
               have hz4b := (hb4.block _ (lt_of_heap hzb)).trans hzb
               have hB4 : Below wA.heap.size wA w4 := hB3.trans (hb4.mono hB3.size)
               obtain ⟨t0, t1, t2, t3, t4, t6⟩ := cells_six hz4b
               obtain ⟨y0, y1, y2, y3, y4, y5⟩ := free_six hz4b
               have HFIN := hide_ (rowT_set hz4b (Nat.le_refl _) (lt_of_heap hzb) hB3 hb4 (fun h => ⟨(ho5 h).1, (ho5 h).2.1, (ho5 h).2.2.1, HFT.out h, (ho5 h).2.2.2⟩))
               have hGs := below_setRow hB4 (Nat.le_refl _) #[.int .i64 t5, .int .i64 l5, .bool o5, .bool s5, .slice p5 n5 c5, .slice q5 m5 d5]
               rw [← set6_row hz4b] at HFIN hGs)
            | (go_at_call 58
               (with_reducible refine (HRVs.out _ _ _ _ _ _ _ _ _ _ _ _ _ _ (w3.alloc (.cells #[.int .i64 0, .int .i64 0, .bool false, .bool false, .slice none 0 0, .slice none 0 0] 34)) hB3z hrs.out).mono ?_)
               rintro e w4 ⟨⟨t5, l5, o5, s5, p5, n5, c5, q5, m5, d5, rfl, ho5⟩, hb4⟩
               have hz4b := (hb4.block w3.heap.size (by simp)).trans (heap_alloc_last w3 (.cells #[.int .i64 0, .int .i64 0, .bool false, .bool false, .slice none 0 0, .slice none 0 0] 34))
               have hB4 : Below wA.heap.size wA w4 := hB3z.trans (hb4.mono hB3z.size)
               obtain ⟨t0, t1, t2, t3, t4, t6⟩ := cells_six hz4b
               obtain ⟨y0, y1, y2, y3, y4, y5⟩ := free_six hz4b
               have HFIN := hide_ (rowT_set hz4b hB3.size (by simp) hB3z hb4 (fun h => ⟨(ho5 h).1, (ho5 h).2.1, (ho5 h).2.2.1, HFT.out h, (ho5 h).2.2.2⟩))
               have hGs := below_setRow hB4 hB3.size #[.int .i64 t5, .int .i64 l5, .bool o5, .bool s5, .slice p5 n5 c5, .slice q5 m5 d5]
               rw [← set6_row hz4b] at HFIN hGs)
            | (go_at_call 58; go_must (
               (with_reducible refine (HRVs.out _ _ _ _ _ _ _ _ _ _ _ _ _ _ w3 hB3 hrs.out).mono ?_)
               rintro e w4 ⟨⟨t5, l5, o5, s5, p5, n5, c5, q5, m5, d5, rfl, ho5⟩, hb4⟩
               have hB4 : Below wA.heap.size wA w4 := hB3.trans (hb4.mono hB3.size)
               have hB4a := hB4.alloc hB4.size (.cells #[.int .i64 0, .int .i64 0, .bool false, .bool false, .slice none 0 0, .slice none 0 0] 34)
               obtain ⟨t0, t1, t2, t3, t4, t6⟩ := cells_six (heap_alloc_last w4 (.cells #[.int .i64 0, .int .i64 0, .bool false, .bool false, .slice none 0 0, .slice none 0 0] 34))
               obtain ⟨y0, y1, y2, y3, y4, y5⟩ := free_six (heap_alloc_last w4 (.cells #[.int .i64 0, .int .i64 0, .bool false, .bool false, .slice none 0 0, .slice none 0 0] 34))
               have hGs := hB4.alloc hB4.size (.cells #[.int .i64 t5, .int .i64 l5, .bool o5, .bool s5, .slice p5 n5 c5, .slice q5 m5 d5] 34)
               have HFIN := hide_ (rowT_new hB3 hb4 (fun h => ⟨(ho5 h).1, (ho5 h).2.1, (ho5 h).2.2.1, HFT.out h, (ho5 h).2.2.2⟩))))))
        all_goals (go_wp2_with fail; go_meet; exact HFIN.out)
      case rest =>
        obtain ⟨b5, t5, l5, o5, s5, p5, n5, c5, q5, m5, d5, rfl, rfl, hb5, hr5, hB5, ho5⟩ := hcut
        have HB5 := hide_ hB5
        have HO5 := hide_ ho5
        have hBw : Below w.heap.size w wc := HBW.out.trans ((hbA.trans (hB5.mono (Nat.le_of_lt hsA))).mono (by have := HBW.out.size; omega))
        have HBw := hide_ hBw
        clear hB5 ho5 hBw HC HRVs HTD HPT HBD HBR
        by_cases hE : E = 0
        · subst hE
          obtain ⟨x0, x1, x2, x3, x4, x5⟩ := cells_six hr5
          have HST2 := hide_ (HG.out.trans (HST.out.trans (if_pos rfl)))
          have hown := hide_ ((HOA.out.below HB5.out).below (below_alloc wc (.cells #[.int .i64 t5, .int .i64 l5, .bool o5, .bool s5, .slice p5 n5 c5, .slice q5 m5 d5] 34)))
          have hkb : (Z.length + 1) * 80 ≤ 140737488355328 := by have := HL.out; omega
          have hle : w2.heap.size ≤ (wc.alloc (.cells #[.int .i64 t5, .int .i64 l5, .bool o5, .bool s5, .slice p5 n5 c5, .slice q5 m5 d5] 34)).heap.size := by have := HB5.out.size; simp; omega
          go_wp2_with (first
            | (at_builtin; go_must (refine wpList_push2 rfl _ _ 22 rfl w2.heap.size 34 i0 (.agg #[.int .i64 0, .int .i64 0, .bool false, .bool false, .slice none 0 0, .slice none 0 0]) 6 80 Try.underlying22 hi hz0 hz1 hz2 rfl (by decide) (by decide) _ Z.length _ rfl hown.out.1 wc.heap.size #[.int .i64 t5, .int .i64 l5, .bool o5, .bool s5, .slice p5 n5 c5, .slice q5 m5 d5] 34 1 1 rfl (heap_alloc_last _ _) rfl (by kernel_rfl) hkb hle ?_; intro v' w5 ho5' hg5 hf5 hn5))
            | ((with_reducible apply wpList_store_new); (with_reducible rfl); (with_reducible rfl); rfl; rfl; kernel_rfl; rfl; kernel_rfl) | ((with_reducible apply wpList_store_blk); (with_reducible rfl); (with_reducible rfl); rfl; assumption; rfl; kernel_rfl; rfl; kernel_rfl))
          obtain ⟨h1, h2, h3, h4, h5⟩ := HO5.out rfl
          obtain ⟨rfl, rfl, rfl⟩ := RO.shape h5
          subst h1 h2 h3
          have hO5 : OWs w5 w2.heap.size v' (Z ++ [⟨Q.1, Q.2.1, Q.2.2.1, Q.2.2.2, p5, c5, q5, d5⟩]) := hown.out.push (z := ⟨Q.1, Q.2.1, Q.2.2.1, Q.2.2.2, p5, c5, q5, d5⟩) (h5.below (below_alloc _ _)) HOA.out.2.below_B (by omega) h4 ho5' hg5
          refine ⟨⟨Z ++ [⟨Q.1, Q.2.1, Q.2.2.1, Q.2.2.2, p5, c5, q5, d5⟩], by simp; omega, by simp, hO5, hide_ ?_, hide_ ?_, own_grew ((HWA.out.step HB5.out).step (below_alloc _ _)) hown.out.1 hg5⟩, ?_⟩
          · rw [List.map_append, HH.out, List.length_append]
            exact HTK.out.symm
          · rw [List.length_append]
            exact HST2.out
          · simp [intOf]
            omega
        · have b1 : (E != 0) = true := by simpa using hE
          have HST2 := hide_ (HG.out.trans (HST.out.trans (if_neg hE)))
          have HNE := hide_ hE
          have HFA := hide_ (fun W => fault_any E (Z.length : Int) W)
          have hrr := (HB5.out.block _ (lt_of_heap HRA.out)).trans HRA.out
          clear hE
          go_wp2_with (first
            | (go_at_call 55; go_must (
                (with_reducible refine (HFA.out _).mono ?_)
                rintro e w6 ⟨rfl, hb6⟩
                have r6 := (hb6.block _ (lt_of_heap hrr)).trans hrr
                clear hrr))
            | ((with_reducible apply wpList_store_new); (with_reducible rfl); (with_reducible rfl); rfl; rfl; kernel_rfl; rfl; kernel_rfl) | ((with_reducible apply wpList_store_blk); (with_reducible rfl); (with_reducible rfl); rfl; assumption; rfl; kernel_rfl; rfl; kernel_rfl))
          refine ret_tc rfl (w.heap.size + 1) 27 _ _ rfl (setRow_heap _ _ _ _ _ _ r6) Try.underlying27 rfl (by kernel_rfl) rfl ?_
          have hap : appF L d = (E, (Z.length : Int)) := by
            unfold appF
            rw [HST2.out, if_pos HNE.out]
          rw [hap]
          exact ⟨.inr ⟨HNE.out, rfl⟩, below_setRow (HBw.out.trans (hb6.mono HBw.out.size)) (by omega) _⟩
end Go.Proofs.Ytcibbnphkpaifaa
