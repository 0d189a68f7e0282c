/- Chapter 20: two answers are new memory (apart). -/
import Derived.Test.YtlgnidjkilbdfaaOl
namespace Go.Proofs.Ytlgnidjkilbdfaa
open Go.RowKit Ieee
set_option linter.unusedVariables false
set_option maxRecDepth 100000
theorem merge_any (p : Option Addr) (n c : Nat) (S : Ls) (w : World) (hn : n = S.length) (hp : ML w p S) (h64 : LW64 S) (hs : n ≤ 140737488355328) (hls : ∀ L ∈ S, L.length ≤ 140737488355328) :
    Calls Try.prog 61 #[.slice p n c] w fun e w' => (∃ v, e = .returned (.tuple #[v, .agg #[.int .i64 (mRes S).2.1, .int .i64 (mRes S).2.2]]) ∧ SL w' w.heap.size v (mRes S).1) ∧ Below w.heap.size w w' := by
  by_cases h : 16 < n
  · have e : mRes S = ([], 3, -1) := by unfold mRes; rw [if_pos (by omega)]
    rw [e]
    exact (merge_many p n c w h).mono fun e w' ⟨h1, h2⟩ => ⟨⟨_, h1, World.ownsRow_nil _ _ _ _⟩, h2⟩
  · exact merge_walk p n c S w hn hp h64 (by omega) hls
theorem rmerge_any (p : Option Addr) (n c : Nat) (S : Ls) (w : World) (hn : n = S.length) (hp : ML w p S) (h64 : LW64 S) (hs : n ≤ 140737488355328) (hls : ∀ L ∈ S, L.length ≤ 140737488355328) :
    Calls Try.prog 62 #[.slice p n c] w fun e w' => (∃ v, e = .returned (.tuple #[v, .agg #[.int .i64 (mRes S).2.1, .int .i64 (mRes S).2.2]]) ∧ SL w' w.heap.size v (mRes S).1) ∧ Below w.heap.size w w' := by
  by_cases h : 16 < n
  · have e : mRes S = ([], 3, -1) := by unfold mRes; rw [if_pos (by omega)]
    rw [e]
    exact (rmerge_many p n c w h).mono fun e w' ⟨h1, h2⟩ => ⟨⟨_, h1, World.ownsRow_nil _ _ _ _⟩, h2⟩
  · exact rmerge_walk p n c S w hn hp h64 (by omega) hls
theorem mRes_len (S : Ls) : (mRes S).1.length ≤ 4096 := by
  unfold mRes
  split
  · simp
  · split
    · simp
    · split
      · simp
      · split
        · simp
        · rename_i h
          show (mOut (allP S)).length ≤ 4096
          unfold mOut
          rw [List.length_map]
          omega
theorem info23m : (Try.prog.info? 23).map (fun i => (i.zero, i.size, i.bytes)) = some (some (.slice none 0 0), 1, 24) := by kernel_rfl
theorem row_capm {w : World} {base : Nat} {e : TypeId} {size n m c : Nat} {p : Option Addr} {xs : List Value} (h : w.ownsRow base e size (.slice p n c) m xs) : n ≤ c := by
  rcases h.2 with ⟨e1, _⟩ | ⟨g, cap, cur, e1, _, _, h1, _⟩
  · simp only [Value.slice.injEq] at e1; omega
  · simp only [Value.slice.injEq] at e1; omega
theorem quiet_ex {P : Program} {f : FuncId} {args : Array Value} {w : World} {n : Nat} {v : Value}
    (h : Calls P f args (w.drewN n) fun e w' => e = .returned v ∧ ∃ k, w' = (w.drewN n).drewN k) : Calls P f args (w.drewN n) fun e w'' => e = .returned v ∧ ∃ m, w'' = w.drewN m :=
  h.mono fun _ _ ⟨he, k, hm⟩ => ⟨he, n + k, by rw [hm, World.drewN_drewN]⟩
theorem rows_apart {w : World} {b1 b2 n m s1 s2 : Nat} {e1 e2 : TypeId} {u v : Value} {xs ys : List Value} (h1 : w.ownsRow b1 e1 s1 v n xs) (h2 : w.ownsRow b2 e2 s2 u m ys) (hT : e2 ≠ e1) : v.ownBlock = none ∨ v.ownBlock ≠ u.ownBlock := by
  rcases row_block h2 with ⟨rfl, _⟩ | ⟨g, c, cur, rfl, _, hg, _⟩
  · cases v.ownBlock
    · exact .inl rfl
    · exact .inr (by simp [Value.ownBlock])
  · exact .inr (row_type h1 hg hT)
/-- Copies, each in a row of its own. -/
def Cps (w : World) (B : Nat) (S : Ls) (k : Nat) (xs : List Value) : Prop := ∀ j, j < k → ∃ p c, xs[j]? = some (.slice p (S.getD j []).length c) ∧ w.ownsRow B 26 2 (.slice p (S.getD j []).length c) (S.getD j []).length (flat (S.getD j []))
theorem Cps.below {w w' : World} {B k : Nat} {S : Ls} {xs : List Value} (h : Cps w B S k xs) (hb : Below w.heap.size w w') : Cps w' B S k xs := fun j hj => by
  obtain ⟨p, c, h1, h2⟩ := h j hj
  exact ⟨p, c, h1, own_below h2 hb⟩
theorem Cps.grown {w w' : World} {B b2 m k : Nat} {S : Ls} {xs ys : List Value} {u : Value} (h : Cps w B S k xs) (hu : w.ownsRow b2 23 1 u m ys) (hg : w.grownBy w' u.ownBlock) : Cps w' B S k xs := fun j hj => by
  obtain ⟨p, c, h1, h2⟩ := h j hj
  exact ⟨p, c, h1, h2.kept hg (rows_apart h2 hu (by decide))⟩
theorem Cps.snoc {w : World} {B k : Nat} {S : Ls} {xs : List Value} {p : Option Addr} {c : Nat} (h : Cps w B S k xs) (hl : xs.length = k) (ho : w.ownsRow B 26 2 (.slice p (S.getD k []).length c) (S.getD k []).length (flat (S.getD k []))) : Cps w B S (k + 1) (xs ++ [.slice p (S.getD k []).length c]) := fun j hj => by
  rcases (show j < k ∨ j = k by omega) with h1 | rfl
  · obtain ⟨p', c', e1, e2⟩ := h j h1
    exact ⟨p', c', by rw [List.getElem?_append_left (by omega)]; exact e1, e2⟩
  · exact ⟨p, c, by rw [List.getElem?_append_right (by omega), hl]; simp, ho⟩
set_option maxHeartbeats 6400000 in
theorem apart_ok {w : World} {ba bb : Nat} {va vb : Value} {A Bl : Rc} (ha : SL w ba va A) (hb : SL w bb vb Bl) (hap : Apart vb va) (p : Option Addr) (n c : Nat) (S : Ls) (hn : n = S.length) (hML : ∀ W, Below ba w W → ML W p S) (hba : ba ≤ w.heap.size)
    (hls : ∀ L ∈ S, L.length ≤ 1048576) (hn20 : n ≤ 20) (hA : A.length ≤ 4096) (hBl : Bl.length ≤ 4096) :
    Calls Try.prog 63 #[va, vb, .slice p n c] w fun e w' => e = .returned (.bool true) ∧ Below ba w w' := by
  subst hn
  obtain ⟨pb, cb, rfl⟩ := SL.slice hb
  obtain ⟨pa, ca, rfl⟩ := SL.slice ha
  have HML := hide_ hML
  have HLS : Hid (∀ k, k < S.length → (S.getD k []).length ≤ 1048576) := hide_ (fun k hk => hls _ (getD_memL hk))
  have HC93 := hide_ (fun (q : Option Addr) (l d : Nat) (L : Rc) (W : World) (h1 : l = L.length) (h : TL W q L) (h2 : l * 16 ≤ 140737488355328) => copys_any q l d L W h1 h h2)
  have H96 := hide_ (fun (q q' : Option Addr) (l d d' : Nat) (L : Rc) (W : World) (h1 : l = L.length) (h : TL W q L) (h' : TL W q' L) (h2 : l ≤ 140737488355328) => sames_any q q' l d d' L W h1 h h' h2)
  have Ha := hide_ ha
  have Hb := hide_ hb
  have HAP := hide_ hap
  obtain ⟨i0, hi0, hz0, hz1, hz2⟩ := info_parts info23m
  have hnl : (S.length : Int) ≤ 20 := by omega
  have hcapA : A.length ≤ ca := row_capm ha
  have hTb := hide_ (SL.tl hb)
  have hal : (A.length : Int) ≤ 4096 := by omega
  have HB0 := hide_ (HC93.out pb Bl.length cb Bl w rfl hTb.out (by omega))
  clear ha hb hap hML hls
  go_enter Try.func63, Try.ntmps63
  go_wp2_with (go_at_call 93; go_must (
    (with_reducible refine (HB0.out).mono ?_)
    rintro e w1 ⟨⟨vw, rfl, ho1⟩, hb1⟩
    have hg1 := Grew.of hb1))
  go_loopw [8, 9] (fun u i wr => ∃ k : Nat, k ≤ S.length ∧ i = .int .i64 k ∧ Hid (∃ xs, wr.ownsRow w.heap.size 23 1 u k xs ∧ Cps wr w.heap.size S k xs) ∧ Hid (SL wr w.heap.size vw Bl) ∧ Grew w.heap.size w wr) (fun _ i _ => S.length - (intOf i).toNat)
  case atStart => exact ⟨0, by omega, rfl, hide_ ⟨[], World.ownsRow_nil _ _ _ _, fun j hj => by omega⟩, hide_ ho1, hg1⟩
  case round =>
    obtain ⟨k, hk, rfl, HX, HW, hgr⟩ := hrel
    have hml := HML.out wr (hgr.below.mono hba)
    by_cases hlt : k < S.length
    · obtain ⟨g, o, q, d, rfl, hc0, htl⟩ := hml.at_ (Below.refl _ _) hlt
      have HCk := hide_ (HC93.out q (S.getD k []).length d (S.getD k []) wr rfl htl (by have := HLS.out k hlt; omega))
      have i4 : (0 : Int) ≤ (k : Int) := by omega
      have i5 : (k : Int) < (S.length : Int) := by omega
      obtain ⟨xs, hu, hcp⟩ := HX.out
      have HXL : Hid (xs.length = k) := hide_ (by have := hu.1; simpa using this)
      have HCP := hide_ hcp
      have HLT := hide_ hlt
      have hkb : (k + 1) * 24 ≤ 140737488355328 := by omega
      clear hml htl hcp
      have HSN := hide_ (fun (W : World) (q : Option Addr) (c : Nat) (h1 : Cps W w.heap.size S k xs) h2 => Cps.snoc (p := q) (c := c) h1 HXL.out h2)
      generalize hll : (S.getD k []).length = ll at *
      go_wp2_with (first
        | (go_at_call 93; go_must (
            (with_reducible refine (HCk.out).mono ?_)
            rintro e w5 ⟨⟨v5, rfl, ho5⟩, hb5⟩
            have hg5 := hgr.step hb5
            have hu5 := own_below hu hb5
            have HW5 := hide_ (HW.out.below hb5)
            have HC5 := hide_ (HCP.out.below hb5)
            obtain ⟨p5, c5, rfl⟩ := SL.slice ho5
            rw [hll]
            have HO5 := hide_ ho5))
        | (at_builtin; go_must (
            refine wpList_push2 rfl _ _ 95 rfl w.heap.size 23 i0 (.slice none 0 0) 1 24 Try.underlying95 hi0 hz0 hz1 hz2 rfl (by decide) (by decide) _ k xs rfl (hu5.alloc _) w5.heap.size #[.slice p5 ll c5] 23 1 1 rfl (heap_alloc_last _ _) rfl (by kernel_rfl) hkb (hg5.alloc _).2 ?_
            intro v' w6 ho6 hg6 hf6 hn6
            have hgr6 := own_grew (hg5.alloc (.cells #[.slice p5 ll c5] 23)) (hu5.alloc (.cells #[.slice p5 ll c5] 23)) hg6)))
      have hu6 := hu5.alloc (.cells #[.slice p5 ll c5] 23)
      have hc6 := (HC5.out.below (below_alloc w5 (.cells #[.slice p5 ll c5] 23))).grown hu6 hg6
      have hw6 := SL.grown (HW5.out.below (below_alloc w5 (.cells #[.slice p5 ll c5] 23))) hg6 (rows_apart (HW5.out.below (below_alloc w5 (.cells #[.slice p5 ll c5] 23))) hu6 (by decide))
      have ho5 : World.ownsRow w5 w.heap.size 26 2 (.slice p5 ll c5) ll (flat (S.getD k [])) := by
        have h1 := ownsRow_base_a HO5.out hgr.2
        rw [hll] at h1
        exact h1
      have hs6 := (ho5.alloc (.cells #[.slice p5 ll c5] 23)).kept hg6 (rows_apart (ho5.alloc (.cells #[.slice p5 ll c5] 23)) hu6 (by decide))
      exact ⟨⟨k + 1, HLT.out, by simp, hide_ ⟨_, ho6, HSN.out _ _ _ hc6 hs6⟩, hide_ hw6, hgr6⟩, by have := HLT.out; simp [intOf]; omega⟩
    · have hkS : k = S.length := by omega
      subst hkS
      have hge : ¬ S.length < S.length := hlt
      clear hml hlt hk
      obtain ⟨xs, hu, hcp⟩ := HX.out
      obtain ⟨pu, cu, rfl⟩ := row_slice hu
      have HU := hide_ hu
      have HCP := hide_ hcp
      have HAr := hide_ (Ha.out.below hgr.below)
      have HBr := hide_ (Hb.out.below hgr.below)
      have hszw := hgr.2
      obtain ⟨pw, cw, rfl⟩ := SL.slice HW.out
      clear hu hcp HX
      rcases HAr.out.2 with ⟨ea, ez⟩ | ⟨g, cap, cur, ea, hbg, hg, hl1, hl2, hl3, _⟩
      · simp only [Value.slice.injEq] at ea
        obtain ⟨rfl, ea2, rfl⟩ := ea
        have hz0 : A.length = 0 := by omega
        rw [hz0]
        go_wp2
        go_loopw [11] (fun i w0 => i = .int .i64 0 ∧ wr = w0) (fun i _ => 0)
        case atStart => exact ⟨rfl, rfl⟩
        case round =>
          obtain ⟨rfl, rfl⟩ := hrel
          have HW3 := HW
          have HB3 := HBr
          have HU3 := HU
          have HCP3 := HCP
          have HML3 := hide_ (HML.out wr (hgr.below.mono hba))
          have hG3 : Hid (Below ba w wr) := hide_ (hgr.below.mono hba)
          have HTB := hide_ (SL.tl HB3.out)
          have HTW := hide_ (SL.tl HW3.out)
          have HF := hide_ (fun W (h : Below wr.heap.size wr W) => H96.out pw pb Bl.length cw cb Bl W rfl (HTW.out.below h) (HTB.out.below h) (by omega))
          have HUR := hide_ (fun h => row_cells HU3.out h)
          have HTS : Hid (∀ k, k < S.length → ∃ p c, xs[k]? = some (.slice p (S.getD k []).length c) ∧ TL wr p (S.getD k [])) := hide_ (fun k hk => by
            obtain ⟨p, c, h1, h2⟩ := HCP3.out k hk
            exact ⟨p, c, h1, SL.tl (S := S.getD k []) h2⟩)
          go_wp2
          obtain ⟨wo, hwo⟩ : ∃ wo, wo = wr := ⟨_, rfl⟩
          subst hwo
          go_loopw [12] (fun i wr => ∃ k : Nat, k ≤ S.length ∧ i = .int .i64 k ∧ Grew wo.heap.size wo wr) (fun i _ => S.length - (intOf i).toNat)
          case atStart => exact ⟨0, by omega, rfl, Grew.refl _⟩
          case round =>
            obtain ⟨k, hk, rfl, hgr4⟩ := hrel
            by_cases hlt : k < S.length
            · obtain ⟨gu, rfl, hgu1, hgu2, hcu⟩ := HUR.out (by omega)
              obtain ⟨q1, c1, hq1, ht1⟩ := HTS.out k hlt
              obtain ⟨go, o, q2, d2, rfl, hc2, ht2⟩ := HML3.out.at_ hgr4.1 hlt
              have e1 := (hgr4.1.cell (p := ⟨gu, k, none⟩) hgu2).trans (hcu _ _ hq1)
              have HS := hide_ (fun m => H96.out q1 q2 (S.getD k []).length c1 d2 (S.getD k []) (wr.drewN m) rfl ((ht1.below hgr4.1).below (below_drewN (Below.refl _ _) m)) ((ht2.below hgr4.1).below (below_drewN (Below.refl _ _) m)) (by have := HLS.out k hlt; omega))
              have i4 : (0 : Int) ≤ (k : Int) := by omega
              have i5 : (k : Int) < (S.length : Int) := by omega
              have HLT := hide_ hlt
              clear ht1 ht2 hcu hq1
              generalize (S.getD k []).length = ll at *
              go_wp2
              go_quiet ((go_at_call 96; exact quiet_ex (HS.out _)))
              go_wp2
              go_roundw
              case rel => exact ⟨k + 1, HLT.out, by go_num, hgr4.drewN _⟩
              case measure => have := HLT.out; simp [intOf]; omega
            · have hge : ¬ k < S.length := hlt
              have hkk : k = S.length := by omega
              subst hkk
              go_wp2_with (go_at_call 96; (with_reducible refine (HF.out _ hgr4.below).mono ?_); rintro e w9 ⟨rfl, q9, rfl⟩)
              go_ret
              exact ⟨rfl, below_drewN ((hG3.out.trans (hgr4.below.mono (by have := hG3.out.size; omega)))) _⟩
      · simp only [Value.slice.injEq] at ea
        obtain ⟨rfl, _, rfl⟩ := ea
        have hgw : g < w.heap.size := (Ha.out.lt rfl).2
        have hca : (ca : Int) ≤ 9223372036854775807 := by unfold maxLen at hl2; omega
        go_wp2
        obtain ⟨w2, hw2⟩ : ∃ w2, w2 = wr := ⟨_, rfl⟩
        subst hw2
        go_loopw [11] (fun i wr => ∃ k : Nat, k ≤ ca ∧ i = .int .i64 k ∧ Hid (∃ cur', wr.heap[g]? = some (.cells cur' 26) ∧ cur'.size = ca * 2) ∧ w2.grownBy wr (some g)) (fun i _ => ca - (intOf i).toNat)
        case atStart => exact ⟨0, by omega, rfl, hide_ ⟨_, hg, hl3⟩, ⟨rfl, rfl, rfl, Nat.le_refl _, fun _ _ _ => rfl⟩⟩
        case round =>
          obtain ⟨k, hk, rfl, hc, hgr2⟩ := hrel
          by_cases hlt : k < ca
          · obtain ⟨cur', hg', hs'⟩ := hc.out
            obtain ⟨x0, hx0⟩ := blk_cell hg' (j := k * 2) (by omega)
            obtain ⟨x1, hx1⟩ := blk_cell hg' (j := k * 2 + 1) (by omega)
            have f0 := blk_free hg' (k * 2)
            have f1 := blk_free hg' (k * 2 + 1)
            have HG := hide_ hg'
            have i4 : (0 : Int) ≤ (k : Int) := by omega
            have i5 : (k : Int) < (ca : Int) := by omega
            have HLT := hide_ hlt
            clear hg'
            go_wp2
            refine ⟨⟨k + 1, HLT.out, by simp, hide_ ?_, (hgr2.trans (setCell_grown _ _ _)).trans (setCell_grown _ _ _)⟩, by have := HLT.out; simp [intOf]; omega⟩
            obtain ⟨c1, e1, z1⟩ := set_blk (j := k * 2) HG.out (.int .i64 (-5))
            obtain ⟨c2, e2, z2⟩ := set_blk (j := k * 2 + 1) e1 (.float .f64 4617315517961601024)
            exact ⟨c2, e2, by omega⟩
          · have hkc : k = ca := by omega
            subst hkc
            have hge : ¬ k < k := hlt
            have hoff : ∀ {b e s n : Nat} {v : Value} {xs : List Value}, w2.ownsRow b e s v n xs → w.heap.size ≤ b → v.ownBlock = none ∨ v.ownBlock ≠ some g := fun {b e s n v xs} h hb => by
              cases hv : v.ownBlock with
              | none => exact .inl rfl
              | some j => exact .inr (fun e => by cases e; have := (h.lt g hv).1; omega)
            have HW3 := hide_ (SL.grown HW.out hgr2 (hoff HW.out (Nat.le_refl _)))
            have HB3 := hide_ (SL.grown HBr.out hgr2 (by
              cases hv : (Value.slice pb Bl.length cb).ownBlock with
              | none => exact .inl rfl
              | some j => exact .inr (fun e => by cases e; exact HAP.out g hv rfl)))
            have HU3 := hide_ (HU.out.kept hgr2 (hoff HU.out (Nat.le_refl _)))
            have HCP3 : Hid (Cps wr w.heap.size S S.length xs) := hide_ (fun j hj => by
              obtain ⟨p, c, h1, h2⟩ := HCP.out j hj
              exact ⟨p, c, h1, h2.kept hgr2 (hoff h2 (Nat.le_refl _))⟩)
            have hG3 : Hid (Below ba w wr) := hide_ ((hgr.below.mono hba).grown hgr2 (by omega) (fun j hj => by cases hj; exact hbg))
            have HML3 := hide_ (HML.out wr hG3.out)
            clear hc hgr2 hoff
            have HTB := hide_ (SL.tl HB3.out)
            have HTW := hide_ (SL.tl HW3.out)
            have HF := hide_ (fun W (h : Below wr.heap.size wr W) => H96.out pw pb Bl.length cw cb Bl W rfl (HTW.out.below h) (HTB.out.below h) (by omega))
            have HUR := hide_ (fun h => row_cells HU3.out h)
            have HTS : Hid (∀ k, k < S.length → ∃ p c, xs[k]? = some (.slice p (S.getD k []).length c) ∧ TL wr p (S.getD k [])) := hide_ (fun k hk => by
              obtain ⟨p, c, h1, h2⟩ := HCP3.out k hk
              exact ⟨p, c, h1, SL.tl (S := S.getD k []) h2⟩)
            go_wp2
            obtain ⟨wo, hwo⟩ : ∃ wo, wo = wr := ⟨_, rfl⟩
            subst hwo
            go_loopw [12] (fun i wr => ∃ k : Nat, k ≤ S.length ∧ i = .int .i64 k ∧ Grew wo.heap.size wo wr) (fun i _ => S.length - (intOf i).toNat)
            case atStart => exact ⟨0, by omega, rfl, Grew.refl _⟩
            case round =>
              obtain ⟨k, hk, rfl, hgr4⟩ := hrel
              by_cases hlt : k < S.length
              · obtain ⟨gu, rfl, hgu1, hgu2, hcu⟩ := HUR.out (by omega)
                obtain ⟨q1, c1, hq1, ht1⟩ := HTS.out k hlt
                obtain ⟨go, o, q2, d2, rfl, hc2, ht2⟩ := HML3.out.at_ hgr4.1 hlt
                have e1 := (hgr4.1.cell (p := ⟨gu, k, none⟩) hgu2).trans (hcu _ _ hq1)
                have HS := hide_ (fun m => H96.out q1 q2 (S.getD k []).length c1 d2 (S.getD k []) (wr.drewN m) rfl ((ht1.below hgr4.1).below (below_drewN (Below.refl _ _) m)) ((ht2.below hgr4.1).below (below_drewN (Below.refl _ _) m)) (by have := HLS.out k hlt; omega))
                have i4 : (0 : Int) ≤ (k : Int) := by omega
                have i5 : (k : Int) < (S.length : Int) := by omega
                have HLT := hide_ hlt
                clear ht1 ht2 hcu hq1
                generalize (S.getD k []).length = ll at *
                go_wp2
                go_quiet ((go_at_call 96; exact quiet_ex (HS.out _)))
                go_wp2
                go_roundw
                case rel => exact ⟨k + 1, HLT.out, by go_num, hgr4.drewN _⟩
                case measure => have := HLT.out; simp [intOf]; omega
              · have hge : ¬ k < S.length := hlt
                have hkk : k = S.length := by omega
                subst hkk
                go_wp2_with (go_at_call 96; (with_reducible refine (HF.out _ hgr4.below).mono ?_); rintro e w9 ⟨rfl, q9, rfl⟩)
                go_ret
                exact ⟨rfl, below_drewN ((hG3.out.trans (hgr4.below.mono (by have := hG3.out.size; omega)))) _⟩
end Go.Proofs.Ytlgnidjkilbdfaa
