/- Chapter 20: turned, the walk. -/
import Derived.Test.YtlgnidjkilbdfaaPc
namespace Go.Proofs.Ytlgnidjkilbdfaa
open Go.RowKit Ieee
set_option linter.unusedVariables false
set_option maxRecDepth 100000
theorem Trn.below {w w' : World} {B : Nat} {T : Ls} {u : Value} {xs : List Value} (h : Trn w B T u xs) (hb : Below w.heap.size w w') : Trn w' B T u xs :=
  ⟨own_below h.row hb, fun j hj => by obtain ⟨p, c, h1, h2⟩ := h.el j hj; exact ⟨p, c, h1, own_below h2 hb⟩, h.ap⟩
theorem getD_snoc {T : Ls} {L : Rc} {j : Nat} : (T ++ [L]).getD j [] = if j = T.length then L else T.getD j [] := by
  rw [List.getD_eq_getElem?_getD]
  by_cases h : j = T.length
  · rw [if_pos h, List.getElem?_append_right (by omega), h]; simp
  · rw [if_neg h, List.getD_eq_getElem?_getD]
    rcases Nat.lt_or_ge j T.length with h1 | h1
    · rw [List.getElem?_append_left h1]
    · rw [List.getElem?_eq_none (by rw [List.length_append]; simp; omega), List.getElem?_eq_none h1]
theorem Trn.push {w w' : World} {B c : Nat} {T : Ls} {L : Rc} {u u' : Value} {xs : List Value} {p : Option Addr} (h : Trn w B T u xs) (hL : w.ownsRow B 26 2 (.slice p L.length c) L.length (flat L)) (hap : ∀ x ∈ xs, Apart x (.slice p L.length c))
    (hg : w.grownBy w' u.ownBlock) (hrow : w'.ownsRow B 23 1 u' (T.length + 1) (xs ++ [.slice p L.length c])) : Trn w' B (T ++ [L]) u' (xs ++ [.slice p L.length c]) := by
  have hl := h.len
  have hget : ∀ j, (xs ++ [.slice p L.length c])[j]? = if j = T.length then some (.slice p L.length c) else xs[j]? := fun j => by
    by_cases e : j = T.length
    · rw [if_pos e, List.getElem?_append_right (by omega), hl, e]; simp
    · rw [if_neg e]
      rcases Nat.lt_or_ge j T.length with h1 | h1
      · rw [List.getElem?_append_left (by omega)]
      · rw [List.getElem?_eq_none (by rw [List.length_append]; simp; omega), List.getElem?_eq_none (by omega)]
  refine ⟨by rw [List.length_append]; exact hrow, fun j hj => ?_, fun i j hij hj x y hx hy => ?_⟩
  · rw [hget, getD_snoc]
    by_cases e : j = T.length
    · rw [if_pos e, if_pos e]
      exact ⟨p, c, rfl, hL.kept hg (rows_apart hL h.row (by decide))⟩
    · rw [if_neg e, if_neg e]
      obtain ⟨q, d, h1, h2⟩ := h.el j (by rw [List.length_append] at hj; simp at hj; omega)
      exact ⟨q, d, h1, h2.kept hg (rows_apart h2 h.row (by decide))⟩
  · rw [List.length_append] at hj
    simp only [List.length_cons, List.length_nil] at hj
    rw [hget] at hx hy
    rw [if_neg (by omega)] at hx
    by_cases e : j = T.length
    · rw [if_pos e] at hy
      cases hy
      exact hap x (List.mem_of_getElem? hx)
    · rw [if_neg e] at hy
      exact h.ap i j hij (by omega) x y hx hy
/-- A slice of numbers that came in. -/
def IL (w : World) (p : Option Addr) (O : List Int) : Prop := O = [] ∨ ∃ g o, p = some ⟨g, o, none⟩ ∧ g < w.heap.size ∧ ∀ k, k < O.length → w.cell? ⟨g, o + k, none⟩ = some (.int .i64 (O.getD k 0))
set_option maxHeartbeats 6400000 in
theorem turned_any (p : Option Addr) (n c : Nat) (S : Ls) (q : Option Addr) (m d : Nat) (O : List Int) (w : World) (hn : n = S.length) (hp : ML w p S) (hm : m = O.length) (hq : IL w q O) (hn16 : n ≤ 16) (hm200 : m ≤ 200) (hls : ∀ L ∈ S, L.length ≤ 60) :
    Calls Try.prog 64 #[.slice p n c, .slice q m d] w fun e w' => (∃ v T xs, e = .returned v ∧ Trn w' w.heap.size T v xs ∧ T.flatten.Perm S.flatten ∧ T.length = S.length ∧ ∀ L ∈ T, L.length ≤ 60) ∧ Below w.heap.size w w' := by
  subst hn hm
  have HP := hide_ hp
  have HQ := hide_ hq
  have HLS := hide_ hls
  have HC93 := hide_ (fun (q : Option Addr) (l d : Nat) (L : Rc) (W : World) (h1 : l = L.length) (h : TL W q L) (h2 : l * 16 ≤ 140737488355328) => copys_any q l d L W h1 h h2)
  obtain ⟨i0, hi0, hz0, hz1, hz2⟩ := info_parts info23m
  have hnl : (S.length : Int) ≤ 16 := by omega
  have hml : (O.length : Int) ≤ 200 := by omega
  clear hp hq hls
  go_enter Try.func64, Try.ntmps64
  go_wp2
  go_loopw [5, 6] (fun u i wr => ∃ k : Nat, k ≤ S.length ∧ i = .int .i64 k ∧ Hid (∃ xs, Trn wr w.heap.size (S.take k) u xs) ∧ Grew w.heap.size w wr) (fun _ i _ => S.length - (intOf i).toNat)
  case atStart => exact ⟨0, by omega, rfl, hide_ ⟨[], World.ownsRow_nil _ _ _ _, (fun j hj => by simp at hj), fun i j hij hj => by simp at hj⟩, Grew.refl _⟩
  case round =>
    obtain ⟨k, hk, rfl, HX, hgr⟩ := hrel
    by_cases hlt : k < S.length
    · obtain ⟨g, o, q1, d1, rfl, hc0, htl⟩ := HP.out.at_ hgr.1 hlt
      have hl60 := HLS.out _ (getD_memL hlt)
      have HCk := hide_ (HC93.out q1 (S.getD k []).length d1 (S.getD k []) wr rfl (htl.below hgr.1) (by omega))
      have i4 : (0 : Int) ≤ (k : Int) := by omega
      have i5 : (k : Int) < (S.length : Int) := by omega
      obtain ⟨xs, htr⟩ := HX.out
      have htk : (S.take k).length = k := by rw [List.length_take]; omega
      have hu := htr.row
      rw [htk] at hu
      have HT := hide_ htr
      have HLT := hide_ hlt
      have hkb : (k + 1) * 24 ≤ 140737488355328 := by omega
      have HTK := hide_ htk
      have HSN : Hid (S.take (k + 1) = S.take k ++ [S.getD k []]) := hide_ (by rw [List.take_succ_eq_append_getElem hlt, List.getD_eq_getElem?_getD, List.getElem?_eq_getElem hlt]; rfl)
      clear htl htr htk
      generalize hL : S.getD k [] = L at *
      generalize hll : L.length = ll at *
      clear hL
      go_wp2_with (first
        | (go_at_call 93; go_must (
            (with_reducible refine (HCk.out).mono ?_)
            rintro e w5 ⟨⟨v5, rfl, ho5⟩, hb5⟩
            have hg5 := hgr.step hb5
            have hu5 := own_below hu hb5
            have HT5 := hide_ (HT.out.below hb5)
            obtain ⟨p5, c5, rfl⟩ := SL.slice ho5
            rw [hll]
            have HO5 := hide_ ho5))
        | (at_builtin; go_must (
            refine wpList_push2 rfl _ _ 95 rfl w.heap.size 23 i0 (.slice none 0 0) 1 24 Try.underlying95 hi0 hz0 hz1 hz2 rfl (by decide) (by decide) _ k xs rfl (hu5.alloc _) w5.heap.size #[.slice p5 ll c5] 23 1 1 rfl (heap_alloc_last _ _) rfl (by kernel_rfl) hkb (hg5.alloc _).2 ?_
            intro v' w6 ho6 hg6 hf6 hn6
            have hgr6 := own_grew (hg5.alloc (.cells #[.slice p5 ll c5] 23)) (hu5.alloc (.cells #[.slice p5 ll c5] 23)) hg6)))
      have hap : ∀ x ∈ xs, Apart x (.slice p5 L.length c5) := fun x hx k hk1 hk2 => by
        obtain ⟨j, hj, rfl⟩ := List.getElem_of_mem hx
        obtain ⟨pj, cj, e1, e2⟩ := HT.out.el j (by have := HT.out.len; omega)
        rw [List.getElem?_eq_getElem hj] at e1
        have e3 := Option.some.inj e1
        rw [e3] at hk1
        have := (e2.lt k hk1).2
        have := (World.ownsRow.lt HO5.out k hk2).1
        omega
      have ho5 : World.ownsRow w5 w.heap.size 26 2 (.slice p5 L.length c5) L.length (flat L) := ownsRow_base_a HO5.out hgr.2
      have hT6 := (HT5.out.below (below_alloc w5 (.cells #[.slice p5 ll c5] 23))).push (ho5.alloc (.cells #[.slice p5 ll c5] 23)) hap hg6 (by rw [HTK.out, hll]; exact ho6)
      exact ⟨⟨k + 1, HLT.out, by simp, hide_ (by rw [HSN.out]; exact ⟨_, hT6⟩), hgr6⟩, by have := HLT.out; simp [intOf]; omega⟩
    · have hkS : k = S.length := by omega
      subst hkS
      have hge : ¬ S.length < S.length := hlt
      obtain ⟨xs, htr⟩ := HX.out
      rw [List.take_length] at htr
      obtain ⟨pu, cu, rfl⟩ := row_slice htr.row
      have HT0 := hide_ htr
      clear htr HX hlt hk
      go_wp2
      obtain ⟨wo, hwo⟩ : ∃ wo, wo = wr := ⟨_, rfl⟩
      subst hwo
      go_loopw [7] (fun i wr => ∃ k : Nat, k ≤ O.length ∧ i = .int .i64 k ∧ Hid (∃ T xs, Trn wr w.heap.size T (.slice pu S.length cu) xs ∧ T.flatten.Perm S.flatten ∧ T.length = S.length ∧ ∀ L ∈ T, L.length ≤ 60) ∧ Grew w.heap.size w wr) (fun i _ => O.length - (intOf i).toNat)
      case atStart => exact ⟨0, by omega, rfl, hide_ ⟨S, xs, HT0.out, List.Perm.refl _, rfl, HLS.out⟩, hgr⟩
      case round =>
        obtain ⟨k, hk, rfl, HX, hgr⟩ := hrel
        by_cases hlt : k < O.length
        · by_cases h0 : S.length = 0
          · have hgt : decide ((0 : Int) < (S.length : Int)) = false := decide_eq_false (by omega)
            obtain ⟨T, xs, h1, h2, h3, h4⟩ := HX.out
            have HR := hide_ (And.intro h1 (And.intro h2 (And.intro h3 h4)))
            have i5 : (k : Int) < (O.length : Int) := by omega
            clear h1 h2 h3 h4 HX
            go_wp2
            go_ret
            exact ⟨⟨_, T, xs, rfl, HR.out⟩, hgr.below⟩
          · have hgt : decide ((0 : Int) < (S.length : Int)) = true := decide_eq_true (by omega)
            obtain ⟨T, xs, h1, h2, h3, h4⟩ := HX.out
            obtain ⟨gq, oq, rfl, hgq, hcq⟩ : ∃ g o, q = some ⟨g, o, none⟩ ∧ g < w.heap.size ∧ ∀ k, k < O.length → w.cell? ⟨g, o + k, none⟩ = some (.int .i64 (O.getD k 0)) := by
              rcases HQ.out with h | h
              · rw [h] at hlt; cases hlt
              · exact h
            have e0 := (hgr.1.cell (p := ⟨gq, oq + k, none⟩) hgq).trans (hcq k hlt)
            have hN1 : 1 ≤ S.length := by omega
            have HPK := hide_ (fun (x : Int) (l : Nat) (g1 : 1 ≤ l) (g2 : l ≤ 1000) W => pick_any x l g1 g2 W)
            have HP1 := hide_ (fun W => pick_any (O.getD k 0) S.length hN1 (by omega) W)
            have hal : k % S.length < S.length := Nat.mod_lt _ (by omega)
            have hbl : pickN (O.getD k 0) S.length < S.length := pickN_lt _ _ hN1
            have hmod : ((k : Int)).tmod (S.length : Int) = ((k % S.length : Nat) : Int) := (Int.ofNat_tmod k S.length).symm
            have hnz : ((S.length : Int) == 0) = false := beq_eq_false_iff_ne.2 (by omega)
            have i4 : (0 : Int) ≤ (k : Int) := by omega
            have i5 : (k : Int) < (O.length : Int) := by omega
            have HLT := hide_ hlt
            have HE0 := hide_ (fun (W : World) (h : Below w.heap.size w W) => (h.cell (p := ⟨gq, oq + k, none⟩) hgq).trans (hcq k hlt))
            generalize k % S.length = a at *
            have hwr : IntKind.i64.wrap (a : Int) = (a : Int) := IntWalk.i64_in _ (by omega)
            generalize pickN (O.getD k 0) S.length = b at *
            generalize O.getD k 0 = od at *
            clear hcq h0
            go_wp2
            go_quiet ((go_at_call 102; exact Calls.quiet_of_same ((HP1.out _).mono (fun _ _ h => ⟨h.1, h.2.symm⟩))))
            go_wp2
            have hrow := h1.row
            rw [h3] at hrow
            obtain ⟨gu, rfl, hgu1, hgu2, hcu⟩ := row_cells hrow (by omega)
            have hxl := h1.len
            obtain ⟨pa, ca, hxa, _⟩ := h1.el a (by omega)
            obtain ⟨pb, cb, hxb, _⟩ := h1.el b (by omega)
            generalize (T.getD a []).length = la at hxa
            generalize (T.getD b []).length = lb at hxb
            have x0 := hcu _ _ hxa
            have x1 := hcu _ _ hxb
            obtain ⟨cur, hgb, hcs⟩ : ∃ cur, wr.heap[gu]? = some (.cells cur 23) ∧ S.length * 1 ≤ cur.size := by
              rcases row_block hrow with ⟨e, _⟩ | ⟨g', c', cur, e, _, hg, hs⟩
              · cases e
              · cases e; exact ⟨cur, hg, hs⟩
            have f0 := blk_free hgb a
            have f1 := blk_free hgb b
            have hgbq : (wr.drewN (nq + 1)).heap[gu]? = some (.cells cur 23) := hgb
            obtain ⟨cur1, hg1, hs1⟩ := set_blk (j := a) hgbq (.slice pb lb cb)
            obtain ⟨y1, hy1⟩ := blk_cell hg1 (j := b) (by omega)
            have f2 := blk_free hg1 b
            clear hgbq hg1
            have j0 : (0 : Int) ≤ (a : Int) := by omega
            have j1 : (a : Int) < (S.length : Int) := by omega
            have j2 : (0 : Int) ≤ (b : Int) := by omega
            have j3 : (b : Int) < (S.length : Int) := by omega
            have HH1 := hide_ h1
            have HSW := hide_ (fun (W : World) (h : Trn W w.heap.size T (.slice (some ⟨gu, 0, none⟩) S.length cu) xs) => h.swap (a := a) (b := b) h3.symm (by omega) (by omega) hxa hxb)
            clear hcu hgb hxa hxb h1 hrow
            go_region
            have HT2 := hide_ (HSW.out _ (HH1.out.below (below_drewN (Below.refl _ _) (nq + 1))))
            have hgr2 := ((hgr.drewN (nq + 1)).setCell (p := ⟨gu, a, none⟩) hgu1 (.slice pb lb cb)).setCell (p := ⟨gu, b, none⟩) hgu1 (.slice pa la ca)
            generalize ((wr.drewN (nq + 1)).setCell ⟨gu, a, none⟩ (.slice pb lb cb)).setCell ⟨gu, b, none⟩ (.slice pa la ca) = w2 at *
            have HPF : Hid ((swp T a b).flatten.Perm S.flatten) := hide_ ((swp_perm T (by omega) (by omega)).flatten.trans h2)
            have HPL : Hid ((swp T a b).length = S.length) := hide_ (by rw [swp_len]; exact h3)
            have HP60 : Hid (∀ L ∈ swp T a b, L.length ≤ 60) := hide_ (fun L hL => h4 L ((swp_perm T (by omega) (by omega)).mem_iff.1 hL))
            clear hgr x0 x1 f0 f1 f2 hy1 hs1 HSW HH1 h2 h4
            generalize hxs2 : (xs.set a (.slice pb lb cb)).set b (.slice pa la ca) = xs2 at *
            generalize swp T a b = T2 at *
            have hT2l := HPL.out
            obtain ⟨p2, c2, hx2, ho2⟩ := HT2.out.el a (by omega)
            have hrow2 := HT2.out.row
            rw [hT2l] at hrow2
            obtain ⟨gu', eg, _, _, hcu2⟩ := row_cells hrow2 (by omega)
            cases eg
            have y0 := hcu2 _ _ hx2
            have hl60 : (T2.getD a []).length ≤ 60 := HP60.out _ (getD_memL (by omega))
            have HX2 := hide_ hx2
            by_cases hz : (T2.getD a []).length = 0
            · rw [hz] at y0
              clear hrow2 hcu2 hx2 ho2
              go_wp2
              exact ⟨⟨k + 1, HLT.out, by simp, hide_ ⟨T2, xs2, HT2.out, HPF.out, HPL.out, HP60.out⟩, hgr2⟩, by have := HLT.out; simp [intOf]; omega⟩
            · have hz1 : 1 ≤ (T2.getD a []).length := by omega
              have HIN := hide_ (fun (W : World) (g ca c d : Nat) (h : Trn W w.heap.size T2 (.slice (some ⟨gu, 0, none⟩) S.length cu) xs2) => h.inner (g := g) (ca := ca) (a := a) (c := c) (d := d) (by rw [HPL.out]; exact hal))
              obtain ⟨g2, rfl, hg21, hg22, hc2⟩ := row_cells ho2 hz1
              obtain ⟨cur2, hb2, hs2⟩ : ∃ cur, w2.heap[g2]? = some (.cells cur 26) ∧ (T2.getD a []).length * 2 ≤ cur.size := by
                rcases row_block ho2 with ⟨e, _⟩ | ⟨g', c', cur, e, _, hg, hs⟩
                · cases e
                · cases e; exact ⟨cur, hg, hs⟩
              have HP2 := hide_ (fun W => HPK.out od (T2.getD a []).length hz1 (by omega) W)
              have hal2 : k % (T2.getD a []).length < (T2.getD a []).length := Nat.mod_lt _ (by omega)
              have hbl2 : pickN od (T2.getD a []).length < (T2.getD a []).length := pickN_lt _ _ hz1
              have hmod2 : ((k : Int)).tmod ((T2.getD a []).length : Int) = ((k % (T2.getD a []).length : Nat) : Int) := (Int.ofNat_tmod k _).symm
              have hnz2 : (((T2.getD a []).length : Int) == 0) = false := beq_eq_false_iff_ne.2 (by omega)
              have hgt2 : decide ((0 : Int) < ((T2.getD a []).length : Int)) = true := decide_eq_true (by omega)
              generalize k % (T2.getD a []).length = ci at *
              have hwr2 : IntKind.i64.wrap (ci : Int) = (ci : Int) := IntWalk.i64_in _ (by omega)
              generalize pickN od (T2.getD a []).length = di at *
              obtain ⟨m1, m2⟩ := flat_at (T2.getD a []) ci hal2
              obtain ⟨m3, m4⟩ := flat_at (T2.getD a []) di hbl2
              have q1 := hc2 _ _ m1
              have q2 := hc2 _ _ m2
              have q3 := hc2 _ _ m3
              have q4 := hc2 _ _ m4
              have e0 := HE0.out _ hgr2.below
              have HIN2 := hide_ (fun (W : World) (h : Trn W w.heap.size T2 (.slice (some ⟨gu, 0, none⟩) S.length cu) xs2) => HIN.out W g2 c2 ci di h hx2 hal2 hbl2)
              have HFP : Hid ((((T2.getD a []).set ci ((T2.getD a []).getD di (0, 0))).set di ((T2.getD a []).getD ci (0, 0))).Perm (T2.getD a [])) := hide_ (by
                have := swp_perm (T2.getD a []) hal2 hbl2
                exact this)
              generalize hLa : T2.getD a [] = La at *
              generalize hll : La.length = ll at *
              generalize hvc : La.getD ci (0, 0) = vc at *
              generalize hvd : La.getD di (0, 0) = vd at *
              obtain ⟨tc, hc⟩ := vc
              obtain ⟨td, hd⟩ := vd
              simp only at q1 q2 q3 q4
              clear hc2 hx2 ho2 hrow2 hcu2 m1 m2 m3 m4
              have k0 : (0 : Int) ≤ (ci : Int) := by omega
              have k1 : (ci : Int) < (ll : Int) := by omega
              have k2 : (0 : Int) ≤ (di : Int) := by omega
              have k3 : (di : Int) < (ll : Int) := by omega
              go_wp2
              go_quiet ((go_at_call 102; exact Calls.quiet_of_same ((HP2.out _).mono (fun _ _ h => ⟨h.1, h.2.symm⟩))))
              go_wp2
              have f0 := blk_free hb2 (ci * 2)
              have f1 := blk_free hb2 (ci * 2 + 1)
              have hbq : (w2.drewN (nq + 1)).heap[g2]? = some (.cells cur2 26) := hb2
              obtain ⟨cur3, e1, z1⟩ := set_blk (j := ci * 2) hbq (.int .i64 td)
              obtain ⟨cur4, e2, z2⟩ := set_blk (j := ci * 2 + 1) e1 (.float .f64 hd)
              obtain ⟨y3, hy3⟩ := blk_cell e2 (j := di * 2) (by omega)
              have f3 := blk_free e2 (di * 2)
              obtain ⟨cur5, e3, z3⟩ := set_blk (j := di * 2) e2 (.int .i64 tc)
              obtain ⟨y4, hy4⟩ := blk_cell e3 (j := di * 2 + 1) (by omega)
              have f4 := blk_free e3 (di * 2 + 1)
              obtain ⟨y5, hy5⟩ := blk_cell e2 (j := di * 2 + 1) (by omega)
              have f5 := blk_free e2 (di * 2 + 1)
              clear hbq e1 e2 e3 hb2 z1 z2 z3
              go_region
              have HT3 := hide_ (HIN2.out _ (HT2.out.below (below_drewN (Below.refl _ _) (nq + 1))))
              have hgr3 := ((((hgr2.drewN (nq + 1)).setCell (p := ⟨g2, ci * 2, none⟩) hg21 (.int .i64 td)).setCell (p := ⟨g2, ci * 2 + 1, none⟩) hg21 (.float .f64 hd)).setCell (p := ⟨g2, di * 2, none⟩) hg21 (.int .i64 tc)).setCell (p := ⟨g2, di * 2 + 1, none⟩) hg21 (.float .f64 hc)
              have HPF3 : Hid ((T2.set a ((La.set ci (td, hd)).set di (tc, hc))).flatten.Perm S.flatten) := hide_ ((flat_perm (by rw [HPL.out]; exact hal) (by rw [hLa]; exact HFP.out)).trans HPF.out)
              have HPL3 : Hid ((T2.set a ((La.set ci (td, hd)).set di (tc, hc))).length = S.length) := hide_ (by rw [List.length_set]; exact HPL.out)
              have HP603 : Hid (∀ L ∈ T2.set a ((La.set ci (td, hd)).set di (tc, hc)), L.length ≤ 60) := hide_ (fun L hL => by
                rcases List.mem_or_eq_of_mem_set hL with h | rfl
                · exact HP60.out L h
                · rw [List.length_set, List.length_set, hll]; exact hl60)
              clear q1 q2 q3 q4 f0 f1 f3 f4 f5 hy3 hy4 hy5 y0 HIN2 HT2 HIN HP2
              go_wp2
              exact ⟨⟨k + 1, HLT.out, by simp, hide_ ⟨_, _, HT3.out, HPF3.out, HPL3.out, HP603.out⟩, hgr3⟩, by have := HLT.out; simp [intOf]; omega⟩
        · have hge : ¬ k < O.length := hlt
          have hkk : k = O.length := by omega
          subst hkk
          obtain ⟨T, xs, h1, h2, h3, h4⟩ := HX.out
          have HR := hide_ (And.intro h1 (And.intro h2 (And.intro h3 h4)))
          clear h1 h2 h3 h4 HX
          go_wp2
          go_ret
          exact ⟨⟨_, T, xs, rfl, HR.out⟩, hgr.below⟩
end Go.Proofs.Ytlgnidjkilbdfaa
