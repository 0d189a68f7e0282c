/- The kit's CopyInts, ApartInts: two lists of numbers do not touch each other. -/
import Derived.Test.YtlgnidjkilbdfaaAwk
import Derived.BigQuiet
namespace Go.Proofs.Ytlgnidjkilbdfaa
open Go.RowKit
set_option linter.unusedVariables false
set_option maxRecDepth 100000
theorem wpList_app {P : Program} {ops : Array Oper} {rest : List Oper} {o : Oper} {a : Act} {w w' : World} {v' : Value} {Q : Exit → Act → World → Prop} (hgd : o.guard = none) (s x : Operand) (t : TypeId)
    (ho : o.op = .call { callee := .builtin .append, args := #[s, x], argTypes := #[t, t] })
    (hr : (Builtin.append_ #[t, t] o.type #[a.eval s, a.eval x]).run P w = .ok v' w') (h : wpList P ops Q rest (a.put o.dst v') w') : wpList P ops Q (o :: rest) a w := by
  refine wpList_plain hgd fun K hK => ?_
  unfold Oper.wp
  simp [execOp, ho, resolve, invoke, builtin, hr, Result.andThen]
  exact hK _ _ h
theorem row_news {w : World} {base : Nat} {e : TypeId} {size n g c : Nat} {xs : List Value} (h : w.ownsRow base e size (.slice (some ⟨g, 0, none⟩) n c) n xs) : ∀ j u, xs[j]? = some u → w.cell? ((⟨g, 0, none⟩ : Addr).add j) = some u := fun j u hj => h.cells rfl j u hj
theorem iv_one {S : List Int} : ∀ u ∈ S.map iv, u.oneCell' = true := by
  intro u hu
  obtain ⟨t, _, rfl⟩ := List.mem_map.1 hu
  rfl
theorem copy_run {w : World} {base b2 : Nat} {v2 v : Value} {S : List Int} {i0 : TypeInfo} {ty : TypeId} (hi : Try.prog.info? 3 = some i0) (hz0 : i0.zero = some (.int .i64 0)) (hz1 : i0.size = 1) (hz2 : i0.bytes = 8)
    (hown : w.ownsRow base 3 1 v 0 []) (hb : base ≤ w.heap.size) (h2 : w.ownsRow b2 3 1 v2 S.length (S.map iv)) (hn : S.length ≤ 5000) :
    ∃ v' w', (Builtin.append_ #[44, 44] ty #[v, v2]).run Try.prog w = .ok v' w' ∧ w'.ownsRow base 3 1 v' S.length (S.map iv) ∧ w.grownBy w' v.ownBlock := by
  rcases row_block h2 with ⟨rfl, hz⟩ | ⟨g, c, cur, rfl, _, _, _⟩
  · obtain rfl := List.eq_nil_of_length_eq_zero hz
    exact ⟨v, w, run_append_owned_none (P := Try.prog) w base 44 ty 3 i0 1 Try.underlying44 hi v 0 [] hown, hown, ⟨rfl, rfl, rfl, Nat.le_refl _, fun _ _ _ => rfl⟩⟩
  · obtain ⟨v', w', hr, r1, r2, _⟩ := run_append_own (P := Try.prog) w base 44 ty 3 i0 (.int .i64 0) 1 8 Try.underlying44 hi hz0 hz1 hz2 rfl (by decide) v 0 [] hown ⟨g, 0, none⟩ S.length c (S.map iv) (by simp) (row_news h2) iv_one (by unfold maxLen; omega) (by omega) hb
    exact ⟨v', w', hr, by simpa using r1, r2⟩
theorem copy_row {w : World} {b2 : Nat} {v2 : Value} {S : List Int} (h2 : w.ownsRow b2 3 1 v2 S.length (S.map iv)) (hn : S.length ≤ 5000) : Calls Try.prog 105 #[v2] w fun e w' =>
    ∃ v', e = .returned v' ∧ w'.ownsRow w.heap.size 3 1 v' S.length (S.map iv) ∧ Below w.heap.size w w' := by
  obtain ⟨i0, hi, hz0, hz1, hz2⟩ := info_parts info3
  have hown : (w.alloc (.cells #[] 3)).ownsRow w.heap.size 3 1 (.slice (some ⟨w.heap.size, 0, none⟩) 0 0) 0 [] := row_lit w w.heap.size 3 1 0 #[] (Nat.le_refl _) rfl (Nat.zero_le _)
  obtain ⟨v', w', hr, r1, r2⟩ := copy_run (ty := 44) hi hz0 hz1 hz2 hown (by simp) (h2.alloc (.cells #[] 3)) hn
  have H1 := hide_ r1
  have H2 := hide_ r2
  have HR := hide_ hr
  clear h2 hown r1 r2 hr
  go_enter Try.func105, Try.ntmps105
  go_wp2_with (at_builtin; go_must (refine wpList_app rfl _ _ 44 rfl HR.out ?_))
  go_ret
  exact ⟨_, rfl, H1.out, ((Grew.refl w).alloc (.cells #[] 3)).grown (mb := w.heap.size) H2.out (Nat.le_refl _) |>.below⟩
/-- A row of n numbers, all in block g. -/
def Nums (w : World) (p : Option Addr) (n c : Nat) : Prop := (p = none ∧ n = 0 ∧ c = 0) ∨ ∃ g cur, p = some ⟨g, 0, none⟩ ∧ w.heap[g]? = some (.cells cur 3 (0, 0)) ∧ cur.size = c ∧ n ≤ c ∧ ∀ j, j < n → ∃ t : Int, cur[j]? = some (.int .i64 t)
theorem set_at {w : World} {g k : Nat} {cur : Array Value} {T : TypeId} (hg : w.heap[g]? = some (.cells cur T (0, 0))) (hk : k < cur.size) (x : Value) :
    ∃ cur', (w.setCell ⟨g, k, none⟩ x).heap[g]? = some (.cells cur' T (0, 0)) ∧ cur'.size = cur.size ∧ ∀ j, cur'[j]? = if j = k then some x else cur[j]? := by
  refine ⟨_, by simp [World.setCell, Array.getElem?_modify, hg]; rfl, by simp, ?_⟩
  intro j
  simp [Array.getElem?_setIfInBounds]
  grind
theorem nums_row {w : World} {base n c : Nat} {p : Option Addr} {S : List Int} (h : w.ownsRow base 3 1 (.slice p n c) S.length (S.map iv)) : n = S.length ∧ Nums w p n c := by
  rcases h.2 with ⟨e, hz⟩ | ⟨g, cap, cur, e, _, hg, h1, _, h3, h4⟩
  · simp only [Value.slice.injEq] at e
    exact ⟨by omega, .inl ⟨e.1, e.2.1, e.2.2⟩⟩
  · simp only [Value.slice.injEq] at e
    obtain ⟨rfl, rfl, rfl⟩ := e
    refine ⟨rfl, .inr ⟨g, cur, rfl, hg, by omega, h1, fun j hj => ⟨S.getD j 0, ?_⟩⟩⟩
    have e : (cur.toList.take (S.length * 1))[j]? = (S.map iv)[j]? := by rw [h4]
    rw [List.getElem?_take, if_pos (by omega)] at e
    rw [List.getElem?_map, List.getElem?_eq_getElem hj] at e
    rw [List.getD_eq_getElem?_getD, List.getElem?_eq_getElem hj]
    simpa [iv] using e
def own (p : Option Addr) (n c : Nat) : Option Nat := (Value.slice p n c).ownBlock
theorem grownBy_refl (w : World) (r : Option Nat) : w.grownBy w r := ⟨rfl, rfl, rfl, Nat.le_refl _, fun _ _ _ => rfl⟩
def Blk (w : World) (p : Option Addr) (c : Nat) : Prop := (p = none ∧ c = 0) ∨ ∃ g cur, p = some ⟨g, 0, none⟩ ∧ w.heap[g]? = some (.cells cur 3 (0, 0)) ∧ cur.size = c
theorem Nums.blk {w : World} {p : Option Addr} {n c : Nat} (h : Nums w p n c) : Blk w p c := by
  rcases h with ⟨h1, _, h2⟩ | ⟨g, cur, h1, h2, h3, _⟩
  · exact .inl ⟨h1, h2⟩
  · exact .inr ⟨g, cur, h1, h2, h3⟩
theorem info44 : (Try.prog.info? 44).map (fun i => (i.zero, i.size, i.bytes)) = some (some (.slice none 0 0), 1, 24) := by kernel_rfl
theorem run_mk (w : World) : (Instr.makeSlice 109 (.int .i64 1) (.int .i64 1)).run Try.prog w = .ok (.slice (some ⟨w.heap.size, 0, none⟩) 1 1) (w.alloc (.cells #[.slice none 0 0] 44)) := by
  obtain ⟨i, hi, hz0, hz1, hz2⟩ := info_parts info44
  have h := run_makeSlice (P := Try.prog) w 109 44 i (.slice none 0 0) (by kernel_rfl) hi hz0 .i64 .i64 1 1 (by omega) (by omega) (by rw [hz1]; decide) (by rw [hz2]; decide) (by decide)
  rw [hz1] at h
  have e : madeCells (Value.slice none 0 0).cells (Int.toNat 1 * 1) = #[.slice none 0 0] := by kernel_rfl
  rw [e] at h
  exact h
attribute [local go_sem] run_mk
theorem room_run {W : World} {g m c : Nat} {cur : Array Value} {ty : TypeId} (hg : W.heap[g]? = some (.cells cur 3 (0, 0))) (hcs : cur.size = c) (hm : m < c) :
    ∃ w', (Builtin.append_ #[44, 44] ty #[.slice (some ⟨g, 0, none⟩) m c, .slice (some ⟨W.heap.size, 0, none⟩) 1 1]).run Try.prog (W.alloc (.cells #[.int .i64 55] 3)) = .ok (.slice (some ⟨g, 0, none⟩) (m + 1) c) w' ∧
      (∃ cur', w'.heap[g]? = some (.cells cur' 3 (0, 0)) ∧ cur'.size = c) ∧ W.grownBy w' (some g) := by
  obtain ⟨i0, hi, hz0, hz1, hz2⟩ := info_parts info3
  have hr := run_append_room (P := Try.prog) (w := W.alloc (.cells #[.int .i64 55] 3)) 44 ty 3 i0 Try.underlying44 hi g m c cur (heap_past hg) ⟨W.heap.size, 0, none⟩ 1 1 [.int .i64 55] (by rw [hz1]; rfl)
    (by
      intro j u hu
      rw [Addr.add_lit, Nat.zero_add, cell_of_row _ _ _ _ _ _ (heap_alloc_last W _)]
      simpa using hu) (by simp [Value.oneCell']) (by omega) (by rw [hz1]; simp; omega)
  refine ⟨_, hr, ⟨_, Go.setRow_heap _ g cur _ 3 _ (heap_past hg), ?_⟩, ⟨rfl, rfl, rfl, by simp, fun k hk hne => ?_⟩⟩
  · rw [hz1]; simp; omega
  · rw [Go.setRow_other _ g k _ (fun e => hne (by simp [e]))]
    exact Below.heap_alloc _ _ _ hk
set_option maxHeartbeats 4000000 in
theorem apart_true {w : World} {b1 b2 B : Nat} {v1 v2 : Value} {S T : List Int} (h1 : w.ownsRow b1 3 1 v1 S.length (S.map iv)) (h2 : w.ownsRow b2 3 1 v2 T.length (T.map iv)) (hne : v2.ownBlock = none ∨ v2.ownBlock ≠ v1.ownBlock)
    (hB : w.heap[B]? = some (.cells #[v2] 44)) (hS : S.length ≤ 5000) (hT : T.length ≤ 5000) : Calls Try.prog 76 #[v1, .slice (some ⟨B, 0, none⟩) 1 1] w fun e w' => e = .returned (.bool true) ∧ w.grownBy w' v1.ownBlock := by
  obtain ⟨p, c, rfl⟩ := row_slice h1
  have hBne : (Value.slice p S.length c).ownBlock ≠ some B := row_type h1 hB (by decide)
  have hlt1 : ∀ b, (Value.slice p S.length c).ownBlock = some b → b < w.heap.size := fun b e => (h1.lt b e).2
  have hA := below_alloc w (.cells #[.slice none 0 0] 44)
  have HC := hide_ (copy_row (w := w.alloc (.cells #[.slice none 0 0] 44)) (h2.alloc _) hT)
  have hBA := cells_one (heap_past (o' := .cells #[.slice none 0 0] 44) hB)
  have H1 := hide_ h1
  have H2 := hide_ h2
  have HB := hide_ hB
  have HN := hide_ hne
  have HBN := hide_ hBne
  have HL := hide_ hlt1
  clear h1 h2 hB hne hBne hlt1
  go_enter Try.func76, Try.ntmps76
  go_wp2
  go_loopw [6] (fun i wr => Hid ((i = .int .i64 0 ∧ wr = w.alloc (.cells #[.slice none 0 0] 44)) ∨ (i = .int .i64 1 ∧ ∃ v3, wr.heap[w.heap.size]? = some (.cells #[v3] 44 (0, 0)) ∧ wr.ownsRow (w.heap.size + 1) 3 1 v3 T.length (T.map iv) ∧ Grew w.heap.size w wr)))
    (fun i _ => 1 - (intOf i).toNat)
  case atStart => exact hide_ (.inl ⟨rfl, rfl⟩)
  case round =>
    rcases hrel.out with ⟨rfl, rfl⟩ | ⟨rfl, v3, hR, h3, hg2⟩
    · have hAl := heap_alloc_last w (.cells #[.slice none 0 0] 44)
      go_wp2_with (go_at_call 105; go_must ((with_reducible refine (HC.out).mono ?_); rintro e w1 ⟨v3, rfl, h3, hb⟩; have hR := (hb.block _ (by simp)).trans hAl; have cR := cells_one hR; have fR := free_one hR; obtain ⟨p3, c3, rfl⟩ := row_slice h3))
      go_roundw
      case rel =>
        clear hrel
        have hg1 := (((Grew.refl w).alloc (.cells #[.slice none 0 0] 44)).step hb).setCell (p := ⟨w.heap.size, 0, none⟩) (Nat.le_refl _) (.slice p3 T.length c3)
        exact hide_ (.inr ⟨by go_num, .slice p3 T.length c3, by simp [World.setCell, Array.getElem?_modify, hR], (by simpa using (h3.kept (setCell_grown w1 ⟨w.heap.size, 0, none⟩ (.slice p3 T.length c3)) (.inr (row_type h3 hR (by decide))))), hg1⟩)
      case measure => simp [intOf]
    · clear hrel
      obtain ⟨p3, c3, rfl⟩ := row_slice h3
      have H3 := hide_ h3
      have HR := hide_ hR
      have hwr := hg2.1
      have hsz := hg2.2
      have H1r := hide_ (own_below H1.out hwr)
      have H2r := hide_ (own_below H2.out hwr)
      have HBr := hide_ ((hwr.block B (lt_of_heap HB.out)).trans HB.out)
      obtain ⟨w2, hw2⟩ : ∃ w2, w2 = wr := ⟨_, rfl⟩
      subst hw2
      have hN0 := hide_ (nums_row H1r.out).2
      clear h3 hR hA HC hBA hwr
      go_wp2
      go_loopw [7] (fun i wr => ∃ k : Nat, k ≤ S.length ∧ i = .int .i64 k ∧ Hid (Nums wr p S.length c) ∧ w2.grownBy wr (Value.slice p S.length c).ownBlock) (fun i _ => S.length - (intOf i).toNat)
      case atStart => exact ⟨0, by omega, rfl, hN0, grownBy_refl _ _⟩
      case round =>
        obtain ⟨k, hk, rfl, hN, hgr⟩ := hrel
        by_cases hlt : k < S.length
        · rcases hN.out with ⟨_, h0, _⟩ | ⟨g, cur, rfl, hg, hcs, hnc, hall⟩
          · omega
          · obtain ⟨t, ht⟩ := hall k hlt
            have hc0 : wr.cell? ⟨g, k, none⟩ = some (.int .i64 t) := by rw [cell_of_row _ _ _ _ _ _ hg]; exact ht
            have f0 := blk_free hg k
            have HG := hide_ hg
            have HA := hide_ hall
            clear hg hall
            go_wp2
            go_roundw
            case rel =>
              obtain ⟨cur', e', hs', hat⟩ := set_at HG.out (k := k) (by omega) (.int .i64 (bits .xor .i64 t 1))
              refine ⟨k + 1, by omega, by go_num, hide_ (.inr ⟨g, cur', rfl, e', by omega, hnc, fun j hj => ?_⟩), hgr.trans (setCell_grown _ _ _)⟩
              rw [hat j]
              split
              · exact ⟨_, rfl⟩
              · exact HA.out j hj
            case measure => simp [intOf]; omega
        · obtain rfl : k = S.length := by omega
          have hge : ¬ S.length < S.length := by omega
          have hN1 := hide_ hN.out.blk
          clear hN hN0
          go_wp2
          go_loopw [0, 8] (fun v0 i wr => ∃ j m : Nat, j ≤ 3 ∧ i = .int .i64 j ∧ v0 = .slice p m c ∧ m ≤ 5000 + j ∧ Hid (Blk wr p c) ∧ w2.grownBy wr (Value.slice p S.length c).ownBlock) (fun _ i _ => 3 - (intOf i).toNat)
          case atStart => exact ⟨0, S.length, by omega, rfl, rfl, by omega, hN1, hgr⟩
          case round =>
            clear hN1 hgr
            obtain ⟨j, m, hj, rfl, rfl, hm, hB1, hgr⟩ := hrel
            by_cases hgo : j < 3 ∧ m < c
            · obtain ⟨hj3, hmc⟩ := hgo
              rcases hB1.out with ⟨_, h0⟩ | ⟨g, cur, rfl, hg, hcs⟩
              · omega
              · obtain ⟨w5, hr, hb5, hg5⟩ := room_run (ty := 44) hg hcs hmc
                have HR5 := hide_ hr
                have hb5 := hide_ (show Blk w5 (some ⟨g, 0, none⟩) c from .inr (by obtain ⟨c5, e5, z5⟩ := hb5; exact ⟨g, c5, rfl, e5, z5⟩))
                clear hr hg hcs
                go_wp2_with (at_builtin; go_must (refine wpList_app rfl _ _ 44 rfl HR5.out ?_))
                go_roundw
                case rel => exact ⟨j + 1, m + 1, by omega, by go_num, rfl, by omega, hb5, hgr.trans hg5⟩
                case measure => simp [intOf]; omega
            · have hnot : 3 ≤ j ∨ c ≤ m := by omega
              clear hgo hB1
              have hgw := hgr
              have hR4 := hide_ ((hgw.block w.heap.size (lt_of_heap HR.out) (fun e => by have := HL.out _ e.symm; omega)).trans HR.out)
              have hB4 := hide_ ((hgw.block B (lt_of_heap HBr.out) (fun e => HBN.out e.symm)).trans HBr.out)
              have h34 := hide_ (H3.out.kept hgw (by
                cases e3 : (Value.slice p3 T.length c3).ownBlock with
                | none => exact .inl rfl
                | some b => exact .inr (fun e => by have := (H3.out.lt b e3).1; have := HL.out b e.symm; omega)))
              have h24 := hide_ (H2r.out.kept hgw HN.out)
              clear HR H3 H2r HBr HN HBN
              obtain ⟨w4, hw4⟩ : ∃ w4, w4 = wr := ⟨_, rfl⟩
              subst hw4
              rcases Nat.lt_or_ge j 3 with hj3 | hj3
              all_goals (
                go_wp2
                go_loopw [9] (fun i w' => Hid ((i = .int .i64 0 ∧ w' = w4) ∨ (i = .int .i64 1 ∧ Below w4.heap.size w4 w'))) (fun i _ => 1 - (intOf i).toNat)
                case atStart => exact hide_ (.inl ⟨rfl, rfl⟩)
                case round =>
                  rcases hrel.out with ⟨rfl, rfl⟩ | ⟨rfl, hbl⟩
                  · clear hrel
                    have cB : ∀ x : After wr, x.w.cell? ⟨B, 0, none⟩ = some v2 := fun x => cells_one ((x.h.block B (lt_of_heap hB4.out)).trans hB4.out)
                    have cR : ∀ x : After wr, x.w.cell? ⟨w.heap.size, 0, none⟩ = some (.slice p3 T.length c3) := fun x => cells_one ((x.h.block _ (lt_of_heap hR4.out)).trans hR4.out)
                    have HE := hide_ (fun x : After wr => (sameInts_true (own_below h24.out x.h) (own_below h34.out x.h) hT).mono (R' := fun e w'' => e = .returned (.bool true) ∧ ∃ y : After wr, w'' = y.w) fun e w'' ⟨he, hb⟩ => ⟨he, ⟨⟨w'', x.h.trans (hb.mono x.h.size)⟩, rfl⟩⟩)
                    go_wp2
                    refine wp_region_after (by kernel_rfl) (by kernel_rfl) ?_
                    repeat (first | go_big_quiet_skip | (go_big_quiet_want; go_big_quiet_op; first | go_big_quiet_on | (apply Exists.intro; refine ⟨fun x => ?_, ?_⟩; (any_goals (with_reducible exact HE.out _)); go_big_quiet_on)))
                    refine wpQuiet_nil ?_
                    rintro _ ⟨x, rfl⟩
                    have hbx := x.h
                    generalize x.w = wx at hbx ⊢
                    clear x cB cR HE
                    go_wp2
                    go_roundw
                    case rel => exact hide_ (.inr ⟨by go_num, hbx⟩)
                    case measure => simp [intOf]
                  · clear hrel
                    go_wp2
                    go_ret
                    exact ⟨rfl, (grown_of_below hg2.1 _).trans (hgr.trans (grown_of_below hbl _))⟩)
end Go.Proofs.Ytlgnidjkilbdfaa
