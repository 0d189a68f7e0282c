/- Chapter 19: the program's record in memory: New, none, Add, Take, At. -/
import Derived.Test.YtlgnidjkilbdfaaSpec
import Derived.Maps.OwnSet
import Derived.StillTailTactics
namespace Go.Proofs.Ytlgnidjkilbdfaa
open Go.RowKit Go.Maps
set_option linter.unusedVariables false
set_option maxRecDepth 100000
theorem wf64 {t : Int} (h : I64 t) : (Lit.int .i64 t).wf = true := by
  obtain ⟨h1, h2⟩ := h
  have e1 : IntKind.min .i64 = -9223372036854775808 := by decide
  have e2 : IntKind.max .i64 = 9223372036854775807 := by decide
  simp [Lit.wf, e1, e2, h1, h2]
theorem key3 {t : Int} (h : I64 t) : keyOf Try.prog 3 (.int .i64 t) = some (.int .i64 t) := keyOf_int_mk Try.underlying3 (wf64 h)
theorem zero24 (w : World) : (zeroValue 24).run Try.prog w = .ok (.float .f64 0) w := by kernel_rfl
theorem own_look {w : World} {mb n : Nat} {L : Rc} {t : Int} (h : w.ownsMap Try.prog 3 RF mb n (datL L)) (ht : I64 t) (c : Bool) :
    (Instr.lookup 63 (.map (some mb)) (.int .i64 t) c).run Try.prog w = .ok (if c then .tuple #[.float .f64 (atT L t), .bool (hasT L t)] else .float .f64 (atT L t)) w := by
  cases c
  · obtain ⟨v, ps, hrun, hv⟩ := h.lookup (int_keyed Try.underlying3) Try.underlying63 (zero24 w) (show RF (.float .f64 0) = some (.lit (.float .f64 0), []) from rfl) (key3 ht)
    obtain ⟨b, rfl, hb⟩ := RF_inv hv
    rw [at_dat] at hb
    simp only [Prod.mk.injEq, DataW.lit.injEq, Lit.float.injEq, true_and] at hb
    rw [hrun, hb.1]
    rfl
  · obtain ⟨v, ps, hrun, hv⟩ := h.look_ok (int_keyed Try.underlying3) Try.underlying63 (zero24 w) (show RF (.float .f64 0) = some (.lit (.float .f64 0), []) from rfl) (key3 ht)
    obtain ⟨b, rfl, hb⟩ := RF_inv hv
    rw [at_dat] at hb
    simp only [Prod.mk.injEq, DataW.lit.injEq, Lit.float.injEq, true_and] at hb
    rw [hrun, hb.1, has_dat]
    rfl
theorem own_tight {w : World} {mb n : Nat} {L : Rc} (h : w.ownsMap Try.prog 3 RF mb n (datL L)) : w.ownsMap Try.prog 3 RF mb L.length (datL L) := by
  obtain ⟨es, clock, hb, F, hs, hD⟩ := h
  refine ⟨es, clock, hb, F, ?_, hD⟩
  have := congrArg Maps.size hD
  rw [size_dat] at this
  simp [Maps.size, length_sorted] at this
  omega
theorem own_len {w : World} {mb n : Nat} {L : Rc} (h : w.ownsMap Try.prog 3 RF mb n (datL L)) (ty : TypeId) :
    (Builtin.len_ #[63] ty #[.map (some mb)]).run Try.prog w = .ok (.int .i64 L.length) w := by
  rw [h.len Try.underlying63 ty, size_dat]
/-- The program's record: a box that holds a map. -/
structure Rec (w : World) (rb mb : Nat) (L : Rc) : Prop where
  ok : Ok L
  box : w.heap[rb]? = some (.cells #[.map (some mb)] 65)
  own : w.ownsMap Try.prog 3 RF mb L.length (datL L)
theorem Rec.kept {w w' : World} {rb mb : Nat} {L : Rc} {row : Option Nat} (h : Rec w rb mb L) (hg : w.grownBy w' row) (h1 : some rb ≠ row) (h2 : some mb ≠ row) : Rec w' rb mb L :=
  ⟨h.ok, (hg.block rb (lt_of_heap h.box) h1).trans h.box, h.own.kept hg h2⟩
theorem Rec.below {w w' : World} {rb mb : Nat} {L : Rc} (h : Rec w rb mb L) (hb : Below w.heap.size w w') : Rec w' rb mb L :=
  h.kept (grown_of_below hb none) (by simp) (by simp)
theorem Rec.lt {w : World} {rb mb : Nat} {L : Rc} (h : Rec w rb mb L) : rb < w.heap.size ∧ mb < w.heap.size := ⟨lt_of_heap h.box, h.own.lt⟩
theorem Rec.ne {w : World} {rb mb : Nat} {L : Rc} (h : Rec w rb mb L) : rb ≠ mb := by
  rintro rfl
  obtain ⟨es, clock, hb, _⟩ := h.own
  rw [h.box] at hb
  cases hb
theorem new_any (w : World) : Calls Try.prog 27 #[] w fun e w' => e = .returned (.pointer (some ⟨w.heap.size + 1, 0, none⟩)) ∧ w' = (w.alloc (.map #[] 0)).alloc (.cells #[.map (some w.heap.size)] 65) := by
  have hmm := @run_makeMap Try.prog
  go_enter Try.func27, Try.ntmps27
  go_wp2
  go_ret
  exact ⟨rfl, rfl⟩
theorem new_rec (w : World) : Rec ((w.alloc (.map #[] 0)).alloc (.cells #[.map (some w.heap.size)] 65)) (w.heap.size + 1) w.heap.size [] :=
  ⟨Ok.nil, heap_at1 _ _ _, ((World.ownsMap_made w Try.prog 3 RF).alloc _)⟩
theorem none_rec {w : World} {rb mb : Nat} {L : Rc} (h : Rec w rb mb L) : Calls Try.prog 73 #[.pointer (some ⟨rb, 0, none⟩)] w fun e w' => e = .returned (.bool false) ∧ w = w' := by
  have hc := cells_one h.box
  have qT := fun (w : World) (r : Option Nat) => run_eql_map_nil (P := Try.prog) w 63 3 24 r Try.underlying63
  clear h
  go_enter Try.func73, Try.ntmps73
  go_wp2
  go_ret
  exact ⟨rfl, rfl⟩
theorem none_nil (w : World) : Calls Try.prog 73 #[.pointer none] w fun e w' => e = .returned (.bool true) ∧ w = w' := by
  go_enter Try.func73, Try.ntmps73
  go_wp2
  go_ret
  exact ⟨rfl, rfl⟩
theorem none_box {w : World} {rb : Nat} (h : w.heap[rb]? = some (.cells #[.map none] 65)) : Calls Try.prog 73 #[.pointer (some ⟨rb, 0, none⟩)] w fun e w' => e = .returned (.bool true) ∧ w = w' := by
  have hc := cells_one h
  have qT := fun (w : World) (r : Option Nat) => run_eql_map_nil (P := Try.prog) w 63 3 24 r Try.underlying63
  clear h
  go_enter Try.func73, Try.ntmps73
  go_wp2
  go_ret
  exact ⟨rfl, rfl⟩
theorem at_rec {w : World} {rb mb : Nat} {L : Rc} {t : Int} (h : Rec w rb mb L) (ht : I64 t) : Calls Try.prog 37 #[.pointer (some ⟨rb, 0, none⟩), .int .i64 t] w fun e w' =>
    e = .returned (.tuple #[.float .f64 (if hasT L t && oneB (atT L t) then atT L t else 0), .bool (hasT L t && oneB (atT L t))]) ∧ ∃ n, w' = w.drewN n := by
  have hc := cells_one h.box
  have hn := hide_ (none_rec h)
  have hl := own_look h.own ht true
  rw [if_pos rfl] at hl
  cases h1 : hasT L t <;> rw [h1] at hl
  · clear h h1
    go_enter Try.func37, Try.ntmps37
    go_wp2_with (go_at_call 73; (with_reducible refine (hn.out).mono ?_); rintro e w1 ⟨rfl, rfl⟩)
    go_ret2
    exact ⟨rfl, 0, rfl⟩
  · have ho := hide_ (one_any (atT L t) w)
    cases h2 : oneB (atT L t) <;> rw [h2] at ho
    · clear h h1 h2
      go_enter Try.func37, Try.ntmps37
      go_wp2_with (first
        | (go_at_call 73; (with_reducible refine (hn.out).mono ?_); rintro e w1 ⟨rfl, rfl⟩)
        | (go_at_call 69; (with_reducible refine (ho.out).mono ?_); rintro e w1 ⟨rfl, hx⟩))
      go_ret2
      exact ⟨rfl, hx⟩
    · clear h h1 h2
      go_enter Try.func37, Try.ntmps37
      go_wp2_with (first
        | (go_at_call 73; (with_reducible refine (hn.out).mono ?_); rintro e w1 ⟨rfl, rfl⟩)
        | (go_at_call 69; (with_reducible refine (ho.out).mono ?_); rintro e w1 ⟨rfl, hx⟩))
      go_ret2
      exact ⟨rfl, hx⟩
/-- Add. -/
def addR (L : Rc) (t : Int) (h : Nat) : Rc := if addE L t = 0 then insT L t h else L
theorem add_rec {w : World} {rb mb : Nat} {L : Rc} {t : Int} {b : Nat} (h : Rec w rb mb L) (ht : I64 t) (hb : b < 2 ^ 64) : Calls Try.prog 28 #[.pointer (some ⟨rb, 0, none⟩), .agg #[.int .i64 t, .float .f64 b]] w fun e w' =>
    e = .returned (.int .i64 (addE L t)) ∧ Rec w' rb mb (addR L t b) ∧ w.grownBy w' (some mb) := by
  have hA : Rec (w.alloc (.cells #[.int .i64 t, .float .f64 b] 26)) rb mb L := h.below ((Below.refl _ _).alloc (Nat.le_refl _) _)
  have hgA := World.grownBy_alloc w (.cells #[.int .i64 t, .float .f64 b] 26) (some mb)
  have hn := hide_ (none_rec hA)
  have hR : ∀ n, Rec ((w.alloc (.cells #[.int .i64 t, .float .f64 b] 26)).drewN n) rb mb L := fun n => ⟨hA.ok, hA.box, hA.own⟩
  have hG : ∀ n, w.grownBy ((w.alloc (.cells #[.int .i64 t, .float .f64 b] 26)).drewN n) (some mb) := fun n => ⟨hgA.os, hgA.tape, hgA.output, hgA.size, hgA.block⟩
  have hcell := cells_one hA.box
  obtain ⟨q0, q1⟩ := cells_two (heap_alloc_last w (.cells #[.int .i64 t, .float .f64 b] 26))
  have hlN := fun n => own_look (hR n).own ht true
  have hlen := fun n => own_len (hR n).own
  simp only [if_pos] at hlN
  have hE := hide_ (fun n => And.intro (hR n) (hG n))
  have hA' := hide_ hA
  clear hA hgA hR hG h
  have hP : ∀ (e : Int) (n : Nat), addE L t = e → e ≠ 0 → (Ending.returned (.int .i64 e) = .returned (.int .i64 (addE L t)) ∧ Rec ((w.alloc (.cells #[.int .i64 t, .float .f64 b] 26)).drewN n) rb mb (addR L t b) ∧ w.grownBy ((w.alloc (.cells #[.int .i64 t, .float .f64 b] 26)).drewN n) (some mb)) := by
    intro e n he hne
    unfold addR
    rw [he, if_neg hne]
    exact ⟨rfl, hE.out n⟩
  have HP := hide_ hP
  clear hP
  by_cases h1 : t < 0 ∨ 1048576 < t
  · have he : addE L t = 2 := by unfold addE; rw [if_pos h1]
    have Hd := hide_ he
    generalize hasT L t = d at hlN
    clear he
    rcases h1 with h1 | h1
    · go_enter Try.func28, Try.ntmps28
      go_wp2_with (go_at_call 73; (with_reducible refine (hn.out).mono ?_); rintro e w1 ⟨rfl, rfl⟩)
      go_quiet (fail)
      go_wp2
      go_ret
      exact HP.out _ _ Hd.out (by decide)
    · have h0 : ¬ t < 0 := by omega
      go_enter Try.func28, Try.ntmps28
      go_wp2_with (go_at_call 73; (with_reducible refine (hn.out).mono ?_); rintro e w1 ⟨rfl, rfl⟩)
      go_quiet (fail)
      go_wp2
      go_ret
      exact HP.out _ _ Hd.out (by decide)
  have h2 : 0 ≤ t := by omega
  have h3 : t ≤ 1048576 := by omega
  cases h4 : hasT L t
  · rw [h4] at hlN
    by_cases h5 : 4096 ≤ L.length
    · have he : addE L t = 3 := by unfold addE; rw [if_neg h1, h4, if_neg (by simp), if_pos h5]
      have Hd := hide_ he
      clear he h1 h4
      go_enter Try.func28, Try.ntmps28
      go_wp2_with (go_at_call 73; (with_reducible refine (hn.out).mono ?_); rintro e w1 ⟨rfl, rfl⟩)
      go_quiet (fail)
      go_wp2
      go_ret
      exact HP.out _ _ Hd.out (by decide)
    · have he : addE L t = 0 := by unfold addE; rw [if_neg h1, h4, if_neg (by simp), if_neg h5]
      have H4 := hide_ h4
      have Hd := hide_ he
      have h6 : L.length < 4096 := by omega
      clear he h1 h4 h5
      go_enter Try.func28, Try.ntmps28
      go_wp2_with (go_at_call 73; (with_reducible refine (hn.out).mono ?_); rintro e w1 ⟨rfl, rfl⟩)
      go_quiet (fail)
      go_wp2
      obtain ⟨hRq, hGq⟩ := hE.out nq
      obtain ⟨w2, hrun2, hown2, hgrow2⟩ := (hE.out (nq + 1)).1.own.update (int_keyed Try.underlying3) Try.underlying63 (by unfold maxLen; omega) (key3 ht) (show RF (.float .f64 b) = some (.lit (.float .f64 b), []) from rfl)
      rw [put_dat b H4.out] at hown2
      have hadd : addR L t b = insT L t b := by unfold addR; rw [if_pos Hd.out]
      have hfin : Rec w2 rb mb (addR L t b) ∧ w.grownBy w2 (some mb) := by
        rw [hadd]
        have hne := hRq.ne
        refine ⟨⟨hRq.ok.ins Hd.out hb, ?_, own_tight hown2⟩, ?_⟩
        · rw [hgrow2.block rb hRq.lt.1 (by simpa using fun e => hne e)]
          exact hRq.box
        · exact hGq.trans ⟨hgrow2.os, hgrow2.tape, hgrow2.output, hgrow2.size, hgrow2.block⟩
      have HF := hide_ hfin
      have hc0 : (w.alloc (.cells #[.int .i64 t, .float .f64 b] 26)).drew.cell? ⟨rb, 0, none⟩ = some (.map (some mb)) := hcell
      clear hfin hRq hGq hown2 hgrow2 hadd
      go_region
      go_wp2
      go_ret
      rw [Hd.out]
      exact ⟨rfl, HF.out⟩
  · rw [h4] at hlN
    have he : addE L t = 5 := by unfold addE; rw [if_neg h1, h4, if_pos rfl]
    have Hd := hide_ he
    clear he h1 h4
    go_enter Try.func28, Try.ntmps28
    go_wp2_with (go_at_call 73; (with_reducible refine (hn.out).mono ?_); rintro e w1 ⟨rfl, rfl⟩)
    go_quiet (fail)
    go_wp2
    go_ret
    exact HP.out _ _ Hd.out (by decide)
def takeE (L : Rc) (t : Int) : Int := if hasT L t then 0 else 6
theorem del_not {L : Rc} {t : Int} (h : hasT L t = false) : delT L t = L := by
  unfold delT
  rw [List.filter_eq_self]
  intro p hp
  unfold hasT at h
  have := (List.any_eq_false.1 h) p hp
  simpa using this
theorem take_rec {w : World} {rb mb : Nat} {L : Rc} {t : Int} (h : Rec w rb mb L) (ht : I64 t) : Calls Try.prog 30 #[.pointer (some ⟨rb, 0, none⟩), .int .i64 t] w fun e w' =>
    e = .returned (.int .i64 (takeE L t)) ∧ Rec w' rb mb (delT L t) ∧ w.grownBy w' (some mb) := by
  have hn := hide_ (none_rec h)
  have hcell := cells_one h.box
  have hl := own_look h.own ht true
  rw [if_pos rfl] at hl
  unfold takeE
  cases h4 : hasT L t
  · rw [h4] at hl
    have HF : Hid (Rec w rb mb (delT L t)) := hide_ (by rw [del_not h4]; exact h)
    clear h h4
    go_enter Try.func30, Try.ntmps30
    go_wp2_with (go_at_call 73; (with_reducible refine (hn.out).mono ?_); rintro e w1 ⟨rfl, rfl⟩)
    go_ret
    exact ⟨rfl, HF.out, ⟨rfl, rfl, rfl, Nat.le_refl _, fun _ _ _ => rfl⟩⟩
  · rw [h4] at hl
    have H := hide_ h
    have hown := h.own
    clear h h4
    go_enter Try.func30, Try.ntmps30
    go_wp2_with (first
      | (go_at_call 73; (with_reducible refine (hn.out).mono ?_); rintro e w1 ⟨rfl, rfl⟩)
      | (at_delete; refine wpList_delete_own _ rfl _ _ 63 3 rfl 24 (int_keyed Try.underlying3) Try.underlying63 _ mb L.length _ rfl hown _ _ rfl (key3 ht) ?_; intro w1 hown1 hturn1))
    go_ret
    rw [del_dat] at hown1
    refine ⟨rfl, ⟨H.out.ok.del, ?_, own_tight hown1⟩, hturn1.grown⟩
    rw [hturn1.grown.block rb H.out.lt.1 (by simpa using fun e => H.out.ne e)]
    exact H.out.box
end Go.Proofs.Ytlgnidjkilbdfaa
