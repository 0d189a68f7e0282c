/- NodalParts: the law's walk. -/
import Derived.Test.YtklhdpkofpkmjaaTm3
import Derived.Test.YtklhdpkofpkmjaaNd6
import Derived.ArgAppend
namespace Go.Proofs.Ytklhdpkofpkmjaa
open Go.RowKit Ieee
set_option linter.unusedVariables false
set_option maxRecDepth 100000
theorem info9 : (Try.prog.info? 9).map (fun i => (i.zero, i.size, i.bytes)) = some (some (.string ⟨#[]⟩), 1, 16) := by kernel_rfl
theorem nm12_is (q : Nat) (hq : q < 10) : isN (nm12 q) = true := by
  rcases (show q = 0 ∨ q = 1 ∨ q = 2 ∨ q = 3 ∨ q = 4 ∨ q = 5 ∨ q = 6 ∨ q = 7 ∨ q = 8 ∨ q = 9 by omega) with rfl | rfl | rfl | rfl | rfl | rfl | rfl | rfl | rfl | rfl <;> decide +kernel
theorem cell_lt {w : World} {a : Addr} {v : Value} (h : w.cell? a = some v) : a.block < w.heap.size := by
  rcases Nat.lt_or_ge a.block w.heap.size with h' | h'
  · exact h'
  · rw [World.cell?, Array.getElem?_eq_none h'] at h
    cases h
theorem cell_kept {w w' : World} {a : Addr} {v : Value} (h : w.cell? a = some v) (hg : Grew w.heap.size w w') : w'.cell? a = some v := by
  have hb := hg.1.block a.block (cell_lt h)
  rw [← h]
  simp only [World.cell?, hb]
def nmL (S : Nat → ByteArray) (k : Nat) : List Value := (List.range k).map fun j => .string (S j)
theorem nmL_at (S : Nat → ByteArray) (k j : Nat) (hj : j < k) : (nmL S k)[j]? = some (.string (S j)) := by
  unfold nmL
  simp [hj]
theorem nmL_succ (S : Nat → ByteArray) (k : Nat) : nmL S (k + 1) = nmL S k ++ [.string (S k)] := by
  unfold nmL
  rw [List.range_succ, List.map_append]
  rfl
theorem past2 {w : World} {g : Nat} {o : Obj} (h : w.heap[g]? = some o) (a b c d : Array Value) (S T : TypeId) : ((((w.alloc (.cells a S)).alloc (.cells b T)).setRow w.heap.size c).setRow (w.heap.size + 1) d).heap[g]? = some o := by
  have hl := lt_of_heap h
  exact (setRow_other _ _ _ _ (by omega)).trans ((setRow_other _ _ _ _ (by omega)).trans (heap_past (heap_past h)))
theorem row_names {w : World} {base g n c : Nat} {S : Nat → ByteArray} (h : w.ownsRow base 9 1 (.slice (some ⟨g, 0, none⟩) n c) n (nmL S n)) (hg : g < w.heap.size) : NamesAt (some ⟨g, 0, none⟩) n S w.heap.size w :=
  .inr ⟨g, 0, rfl, hg, fun j hj => by rw [Nat.zero_add, h.cellAt j (by omega)]; exact nmL_at S n j hj⟩
theorem own_heap {w w' : World} {base n : Nat} {e : TypeId} {size : Nat} {v : Value} {xs : List Value} (h : w.ownsRow base e size v n xs) (hh : ∀ g, v.ownBlock = some g → w'.heap[g]? = w.heap[g]?) : w'.ownsRow base e size v n xs := by
  refine ⟨h.1, ?_⟩
  rcases h.2 with h0 | ⟨g, cap, cur, rfl, h1, h2, h3⟩
  · exact .inl h0
  · exact .inr ⟨g, cap, cur, rfl, h1, (hh g rfl).trans h2, h3⟩
theorem own_cap {w : World} {base n g c : Nat} {e : TypeId} {size : Nat} {xs : List Value} (h : w.ownsRow base e size (.slice (some ⟨g, 0, none⟩) n c) n xs) : n ≤ c ∧ c ≤ maxLen := by
  rcases h.2 with ⟨h0, _⟩ | ⟨g', cap, cur, hv, h1, h2, h3, h4, _⟩
  · cases h0
  · cases hv
    exact ⟨h3, h4⟩
theorem past_eq {w : World} {g : Nat} (hl : g < w.heap.size) (a b c d : Array Value) (S T : TypeId) : ((((w.alloc (.cells a S)).alloc (.cells b T)).setRow w.heap.size c).setRow (w.heap.size + 1) d).heap[g]? = w.heap[g]? :=
  (setRow_other _ _ _ _ (by omega)).trans ((setRow_other _ _ _ _ (by omega)).trans ((heap_alloc_old _ _ (by simp; omega)).trans (heap_alloc_old _ _ hl)))
theorem grown_below {w w' : World} (h : w.grownBy w' none) : Below w.heap.size w w' := ⟨h.os, h.tape, h.output, h.size, fun i hi => h.block i hi (by simp)⟩
theorem none_cell (w : World) : ∀ (j : Nat) (u : Value), ([.string ⟨#[110, 111, 110, 101]⟩] : List Value)[j]? = some u → (w.alloc (.cells #[.string ⟨#[110, 111, 110, 101]⟩] 9)).cell? ((⟨w.heap.size, 0, none⟩ : Addr).add j) = some u := by
  intro j u h
  cases j with
  | zero =>
    have e : (⟨w.heap.size, 0, none⟩ : Addr).add 0 = ⟨w.heap.size, 0, none⟩ := by unfold Addr.add; split <;> simp_all
    rw [e, cell_of_row _ _ _ _ _ _ (heap_alloc_last _ _)]
    simpa using h
  | succ j => simp at h
/-- Of names of the table. -/
theorem times_all (v : Option Addr) (n c : Nat) (S : Nat → ByteArray) (t : Int) (w : World) (h : n ≤ 8) (hnm : NamesAt v n S w.heap.size w) (h0 : 0 ≤ t) (h1 : t ≤ 1048576) (hs : ∀ j, isN (S j) = true) :
    Calls Try.prog 70 #[.slice v n c, .int .i64 t] w fun e w' => e = .returned (.tuple #[.float .f64 (prodB (fun j => sF t (S j)) n), .agg #[.int .i64 (tX (sumP (fun j => sT t (S j)) n)), .int .i64 (tY (sumP (fun j => sT t (S j)) n))], .agg #[.int .i64 0, .int .i64 0]]) ∧ Below w.heap.size w w' := by
  refine (times_ix v n c S t w h hnm h0 h1).mono ?_
  rintro e w' ⟨⟨i, hi, _, hno, _⟩ | ⟨_, rfl⟩, hb⟩
  · rw [hs i] at hno; cases hno
  · exact ⟨rfl, hb⟩
/-- Of names of the table and one that is none. -/
theorem times_last {base g n c : Nat} {S : Nat → ByteArray} (t : Int) (w : World) (h : n < 8) (hown : w.ownsRow base 9 1 (.slice (some ⟨g, 0, none⟩) (n + 1) c) (n + 1) (nmL S n ++ [.string ⟨#[110, 111, 110, 101]⟩])) (hg : g < w.heap.size) (h0 : 0 ≤ t) (h1 : t ≤ 1048576) (hs : ∀ j, isN (S j) = true) :
    Calls Try.prog 70 #[.slice (some ⟨g, 0, none⟩) (n + 1) c, .int .i64 t] w fun e w' => e = .returned (.tuple #[.float .f64 0, .agg #[.int .i64 0, .int .i64 0], .agg #[.int .i64 6, .int .i64 (n : Int)]]) ∧ Below w.heap.size w w' := by
  have hx : isN ⟨#[110, 111, 110, 101]⟩ = false := by decide +kernel
  have hl : (nmL S n).length = n := by simp [nmL]
  refine (times_ix (some ⟨g, 0, none⟩) (n + 1) c (fun j => if j < n then S j else ⟨#[110, 111, 110, 101]⟩) t w (by omega) (.inr ⟨g, 0, rfl, hg, fun j hj => ?_⟩) h0 h1).mono ?_
  · rw [Nat.zero_add, hown.cellAt j (by omega)]
    by_cases hjn : j < n
    · show _ = some (Value.string (if j < n then S j else _))
      rw [if_pos hjn, List.getElem?_append_left (by omega)]
      exact nmL_at S n j hjn
    · obtain rfl : j = n := by omega
      show _ = some (Value.string (if j < j then S j else _))
      rw [if_neg hjn, List.getElem?_append_right (by omega), hl, Nat.sub_self]
      rfl
  · rintro e w' ⟨⟨i, hi, hall, hno, rfl⟩ | ⟨hall, _⟩, hb⟩
    · by_cases hin : i < n
      · simp only [if_pos hin] at hno
        rw [hs i] at hno; cases hno
      · obtain rfl : i = n := by omega
        exact ⟨rfl, hb⟩
    · have := hall n (by omega)
      simp only [if_neg (Nat.lt_irrefl n)] at this
      rw [hx] at this; cases this
set_option maxHeartbeats 8000000 in
theorem parts_c (v : Option Addr) (len cap : Nat) (p : Nat → Int) (t0 t : Int) (w : World) (hl : len ≤ cap) (hcm : cap ≤ maxLen) (hp : len = 0 ∨ ∃ x, v = some x ∧ ∀ j, j < len → w.cell? (x.add j) = some (.int .i64 (p j)))
    (h0 : 0 ≤ t) (h1 : t ≤ 1048576) (HPk : Hid (∀ wx : World, Calls Try.prog 47 #[.int .i64 t0, .int .i64 1048577] wx fun e w' => e = .returned (.int .i64 t) ∧ wx = w')) :
    Calls Try.prog 12 #[.slice v len cap, .int .i64 t0] w fun e w' => e = .returned (.bool true) ∧ Below w.heap.size w w' := by
  obtain ⟨i0, hi0, hz0, hz1, hz2⟩ := info_parts info9
  obtain ⟨q, hq⟩ : ∃ q : Nat → Nat, q = fun j => (p j % 10).toNat := ⟨_, rfl⟩
  obtain ⟨S, hS⟩ : ∃ S : Nat → ByteArray, S = fun j => nm12 (q j) := ⟨_, rfl⟩
  have hqlt : ∀ j, q j < 10 := fun j => by rw [hq]; show (p j % 10).toNat < 10; omega
  have HQ := hide_ (fun j (wx : World) => show Calls Try.prog 47 #[.int .i64 (p j), .int .i64 10] wx fun e w' => e = .returned (.int .i64 (q j : Int)) ∧ wx = w' from by
    have h := pick_ok (p j) 10 wx (by omega) (by omega)
    have e : p j % ((10 : Nat) : Int) = (q j : Int) := by rw [hq]; show p j % 10 = (((p j % 10).toNat : Nat) : Int); omega
    rw [e] at h
    exact h)
  have HNm := hide_ (fun j => by have h := names12_cell (q j) (hqlt j); have e : nm12 (q j) = S j := by rw [hS]
                                 rw [e] at h; exact h)
  have HA := hide_ (fun j => name_calls (S j) t h0 h1 (by rw [hS]; exact nm12_is _ (hqlt j)))
  have HIs := hide_ (fun j => (show isN (S j) = true by rw [hS]; exact nm12_is _ (hqlt j)))
  have HqL := hide_ hqlt
  have HP := hide_ hp
  clear hq hS hqlt hp
  obtain ⟨m, hm⟩ : ∃ m, m = min len 8 := ⟨_, rfl⟩
  have hm8 : m ≤ 8 := by omega
  go_enter Try.func12, Try.ntmps12
  go_wp2_with (first
    | (go_at_call 47; (with_reducible refine (HPk.out _).mono ?_); rintro e w1 ⟨rfl, rfl⟩)
    | (go_at_call 37; (with_reducible refine (names37 _).mono ?_); rintro e w2 ⟨rfl, rfl⟩)
    | (go_at_call 48; (with_reducible refine (awake12 _).mono ?_); rintro e w3 ⟨rfl, hb3⟩))
  have hg3 := ((Grew.refl w).alloc (.cells names12V 9)).step hb3
  have n3 := blk_below hb3
  clear hb3 HPk
  go_loopw [6, 7, 8, 9] (fun vn f s i wr => ∃ k : Nat, k ≤ m ∧ i = .int .i64 k ∧ f = .float .f64 (prodB (fun j => sF t (S j)) k) ∧ s = .int .i64 ((sumP (fun j => sT t (S j)) k : Nat) : Int) ∧
      wr.ownsRow (w.heap.size + 1) 9 1 vn k (nmL S k) ∧ (k = 0 → vn = .slice none 0 0) ∧ wr.heap[w.heap.size]? = some (.cells names12V 9) ∧ Grew w.heap.size w wr) (fun _ _ _ i _ => m - (intOf i).toNat)
  case atStart => exact ⟨0, by omega, rfl, rfl, rfl, World.ownsRow_nil _ _ _ _, fun _ => rfl, n3, hg3⟩
  case round =>
    clear n3 hg3
    obtain ⟨k, hk, rfl, rfl, rfl, hown, hnil, hn, hgr⟩ := hrel
    by_cases hlt : k < m
    · have hkl : k < len := by omega
      have hk8 : k < 8 := by omega
      rcases HP.out with hp0 | ⟨x, rfl, hp⟩
      · omega
      have hck := cell_kept (hp k hkl) hgr
      clear hp
      have hqk := HqL.out k
      have hnk := (cell_of_row wr _ (q k) _ _ _ hn).trans (HNm.out k)
      obtain ⟨hF4, hT, h49, h50⟩ := HA.out k
      have H49 := hide_ h49
      have H50 := hide_ h50
      have H51 := hide_ (fun wx => show Calls Try.prog 51 #[.agg #[.int .i64 (tX (sT t (S k))), .int .i64 (tY (sT t (S k)))]] wx fun e w' => e = .returned (.tuple #[.int .i64 ((sT t (S k) : Nat) : Int), .bool true]) ∧ Below wx.heap.size wx w' from parts_ok (sT t (S k)) wx hT)
      have gm := fun wx => run_float_arith (P := Try.prog) wx .mul 46 .f64 _ _ _ (prodB_step (F := fun j => sF t (S j)) (n := m) (fun j _ => (HA.out j).1) hm8 k hlt)
      have hsl := sumP_lt (fun j => sT t (S j)) k
      have hsu : (((sumP (fun j => sT t (S j)) k : Nat) : Int) + ((sT t (S k) : Nat) : Int)).tmod 3600000 = ((sumP (fun j => sT t (S j)) (k + 1) : Nat) : Int) := by
        rw [Int.tmod_eq_emod_of_nonneg (by omega)]
        show _ = (((sumP (fun j => sT t (S j)) k + sT t (S k)) % 3600000 : Nat) : Int)
        omega
      generalize tX (sT t (S k)) = X1 at H50 H51
      generalize tY (sT t (S k)) = Y1 at H50 H51
      generalize hN1 : sT t (S k) = N1 at hT H51 hsu
      generalize hP1 : prodB (fun j => sF t (S j)) (k + 1) = P1 at gm
      generalize hS1 : sumP (fun j => sT t (S j)) (k + 1) = S1 at hsu
      generalize sumP (fun j => sT t (S j)) k = S0 at hsu hsl ⊢
      generalize prodB (fun j => sF t (S j)) k = P0 at gm ⊢
      have HE := hide_ (And.intro hP1 hS1)
      clear hN1 hP1 hS1 h49 h50 hF4
      have HNL := hide_ (nmL_succ S k)
      have hkk : ((q k : Nat) : Int) < 10 := by omega
      go_wp2_with (first
        | (go_at_call 47; (with_reducible refine (HQ.out k _).mono ?_); rintro e w2 ⟨rfl, rfl⟩)
        | (at_builtin; refine wpList_push rfl _ _ 28 rfl (w.heap.size + 1) 9 i0 (.string ⟨#[]⟩) 1 16 Try.underlying28 hi0 hz0 hz1 hz2 rfl (by decide) (by decide) _ _ _ rfl hown #[.string (S k)] _ 1 1 rfl rfl (by kernel_rfl) (by omega) (lt_of_heap hn) ?_; intro v3 w3 hown3 hb3 _ hnn3; have n3 := (hb3.block _ (by omega)).trans hn)
        | (go_at_call 49; (with_reducible refine (H49.out _).mono ?_); rintro e w4 ⟨rfl, hb4⟩; have n4 := (hb4.block _ (lt_of_heap n3)).trans n3; have own4 := own_below hown3 hb4)
        | (go_at_call 50; (with_reducible refine (H50.out _).mono ?_); rintro e w5 ⟨rfl, hb5⟩; have n5 := heap_past (o' := .cells #[.int .i64 X1, .int .i64 Y1] 35) ((hb5.block _ (lt_of_heap n4)).trans n4); have own5 := (own_below own4 hb5).alloc (.cells #[.int .i64 X1, .int .i64 Y1] 35))
        | (go_at_call 51; (with_reducible refine (H51.out _).mono ?_); rintro e w6 ⟨rfl, hb6⟩; have n6 := (hb6.block _ (lt_of_heap n5)).trans n5; have own6 := own_below own5 hb6)
        | ((with_reducible apply wpList_load_row (hu := Try.underlying35)); (with_reducible rfl); (with_reducible rfl); rfl; exact heap_alloc_last _ _; rfl; kernel_rfl)
        | ((with_reducible apply wpList_store_new); (with_reducible rfl); (with_reducible rfl); rfl; rfl; kernel_rfl; rfl; kernel_rfl))
      go_roundw
      case rel =>
        refine ⟨k + 1, by omega, by go_num, by rw [HE.out.1], by rw [HE.out.2], ?_, fun h => by omega, n6, ?_⟩
        · rw [HNL.out]; exact own6
        · exact ((((hgr.more (hb3.mono (by omega))).step hb4).step hb5).alloc _).step hb6
      case measure => simp [intOf]; omega
    · obtain rfl : m = k := by omega
      clear hlt hk
      rcases (show len = 0 ∨ (0 < len ∧ len < 8) ∨ len = 8 ∨ 8 < len by omega) with hL | hL | hL | hL
      · obtain rfl : len = 0 := by omega
        obtain rfl : m = 0 := by omega
        obtain rfl := hnil (by omega)
        have TC := times_all none 0 0 S t wr (by omega) (.inl rfl) h0 h1 HIs.out
        have hpo := prodB_ok (F := fun j => sF t (S j)) (n := 0) (fun j _ => (HA.out j).1) (by omega) 0 (Nat.le_refl _)
        have PA := fun wx => parts_ok (sumP (fun j => sT t (S j)) 0) wx (sumP_lt _ _)
        rw [turnV_lit] at PA
        generalize tX (sumP (fun j => sT t (S j)) 0) = X0 at TC PA
        generalize tY (sumP (fun j => sT t (S j)) 0) = Y0 at TC PA
        generalize sumP (fun j => sT t (S j)) 0 = S0 at PA ⊢
        generalize prodB (fun j => sF t (S j)) 0 = P0 at TC hpo ⊢
        have hor : (FloatKind.f64.format.order P0 P0 != some .eq) = false := by
          obtain ⟨v0, hv0, _⟩ := hpo
          rw [show FloatKind.f64.format.order P0 P0 = some (compare v0 v0) from order_fin hv0 hv0]
          simp
        have HT := hide_ TC
        have PK := hide_ PA
        clear TC PA hpo HA HQ HNm HqL hm hm8 hnil hcm
        go_wp2_with (first
          | (go_at_call 70; (with_reducible refine HT.out.mono ?_); rintro e w4 ⟨rfl, hb4⟩; obtain ⟨a4, a41⟩ := two_blocks w4 #[.int .i64 0, .int .i64 0] #[.int .i64 0, .int .i64 0] 35 79; obtain ⟨b4, b41, b42⟩ := rows_set (c := #[.int .i64 X0, .int .i64 Y0]) (d := #[.int .i64 0, .int .i64 0]) a4 a41)
          | (go_at_call 51; (with_reducible refine (PK.out _).mono ?_); rintro e w5 ⟨rfl, hb5⟩; have c42 := (hb5.block _ (lt_of_heap b42)).trans b42)
          | ((with_reducible apply wpList_load_row (hu := Try.underlying35)); (with_reducible rfl); (with_reducible rfl); rfl; exact b41; rfl; kernel_rfl)
          | ((with_reducible apply wpList_load_row (hu := Try.underlying79)); (with_reducible rfl); (with_reducible rfl); rfl; exact c42; rfl; kernel_rfl)
          | ((with_reducible apply wpList_store_blk); (with_reducible rfl); (with_reducible rfl); rfl; assumption; rfl; kernel_rfl; rfl; kernel_rfl))
        go_ret
        refine ⟨rfl, ?_⟩
        have hg4 := hgr.step hb4
        have hs4 := hg4.2
        exact Grew.below (by repeat (first | exact Grew.refl _ | assumption | refine Grew.alloc ?_ _ | refine Grew.drewN ?_ _ | refine Grew.drew ?_ | refine Grew.setRow ?_ (by first | assumption | (simp; done) | (simp; omega) | omega) _ | refine Grew.setCell ?_ (by first | assumption | (simp; done) | (simp; omega) | omega) _ | refine Grew.step ?_ (by assumption)))
      · obtain rfl : m = len := by omega
        obtain ⟨g, c, rfl, hg, hgl⟩ := hown.form (by omega)
        have TC := times_all (some ⟨g, 0, none⟩) _ c S t wr (by omega) (row_names hown hgl) h0 h1 HIs.out
        have hpo := prodB_ok (F := fun j => sF t (S j)) (n := m) (fun j _ => (HA.out j).1) (by omega) m (Nat.le_refl _)
        have PA := fun wx => parts_ok (sumP (fun j => sT t (S j)) m) wx (sumP_lt _ _)
        rw [turnV_lit] at PA
        generalize tX (sumP (fun j => sT t (S j)) m) = X0 at TC PA
        generalize tY (sumP (fun j => sT t (S j)) m) = Y0 at TC PA
        generalize sumP (fun j => sT t (S j)) m = S0 at PA ⊢
        generalize prodB (fun j => sF t (S j)) m = P0 at TC hpo ⊢
        have hor : (FloatKind.f64.format.order P0 P0 != some .eq) = false := by
          obtain ⟨v0, hv0, _⟩ := hpo
          rw [show FloatKind.f64.format.order P0 P0 = some (compare v0 v0) from order_fin hv0 hv0]
          simp
        have HT := hide_ TC
        have PK := hide_ PA
        clear TC PA hpo HA HQ HNm HqL hm hm8 hnil hcm
        obtain ⟨hcp, hcx⟩ := own_cap hown
        have hb1 : m + 1 ≤ maxLen := by unfold maxLen; omega
        have hb2 : (m + 1) * 16 ≤ 140737488355328 := by omega
        have hm1 : ((m : Int) + 1 - 1) = (m : Int) := by omega
        go_wp2_with (first
          | (go_at_call 70; (with_reducible refine HT.out.mono ?_); rintro e w4 ⟨rfl, hb4⟩; obtain ⟨a4, a41⟩ := two_blocks w4 #[.int .i64 0, .int .i64 0] #[.int .i64 0, .int .i64 0] 35 79; obtain ⟨b4, b41, b42⟩ := rows_set (c := #[.int .i64 X0, .int .i64 Y0]) (d := #[.int .i64 0, .int .i64 0]) a4 a41; have own4 := own_heap (own_below hown hb4) (fun g1 hg1 => by cases hg1; exact past_eq (Nat.lt_of_lt_of_le hgl hb4.size) #[.int .i64 0, .int .i64 0] #[.int .i64 0, .int .i64 0] #[.int .i64 X0, .int .i64 Y0] #[.int .i64 0, .int .i64 0] 35 79))
          | (go_at_call 51; (with_reducible refine (PK.out _).mono ?_); rintro e w5 ⟨rfl, hb5⟩; have c42 := (hb5.block _ (lt_of_heap b42)).trans b42; have own5 := (own_below own4 hb5).alloc (.cells #[.string ⟨#[110, 111, 110, 101]⟩] 9); have hol : ∀ b, (some ⟨g, 0, none⟩ : Option Addr) = some b → ∀ j u, (nmL S m)[j]? = some u → (w5.alloc (.cells #[.string ⟨#[110, 111, 110, 101]⟩] 9)).cell? (b.add j) = some u := fun b hb => by cases hb; exact own5.cells rfl)
          | ((with_reducible apply wpList_load_row (hu := Try.underlying35)); (with_reducible rfl); (with_reducible rfl); rfl; exact b41; rfl; kernel_rfl)
          | ((with_reducible apply wpList_load_row (hu := Try.underlying79)); (with_reducible rfl); (with_reducible rfl); rfl; exact c42; rfl; kernel_rfl)
          | (at_builtin; refine wpList_append_grows _ rfl _ _ 28 rfl 9 i0 (.string ⟨#[]⟩) 1 16 Try.underlying28 hi0 hz0 hz1 hz2 rfl (by decide) (some ⟨g, 0, none⟩) m m (nmL S m) rfl (fun h => by cases h) (by simp [nmL]) hol ⟨w5.heap.size, 0, none⟩ 1 1 [.string ⟨#[110, 111, 110, 101]⟩] rfl rfl (none_cell w5) (by simp [Value.oneCell']) (by omega) hb1 hb2 ?_; intro v6 w6 own6 hg6; have hb6 := grown_below hg6; obtain ⟨g6, c6, rfl, hgg6, hgl6⟩ := own6.form (by omega); have d42 := (hb6.block _ (lt_of_heap (heap_past (o' := (.cells #[.string ⟨#[110, 111, 110, 101]⟩] 9)) c42))).trans (heap_past (o' := (.cells #[.string ⟨#[110, 111, 110, 101]⟩] 9)) c42); have T2 := hide_ (times_last t w6 hL.2 own6 hgl6 h0 h1 HIs.out))
          | (go_at_call 70; (with_reducible refine T2.out.mono ?_); rintro e w7 ⟨rfl, hb7⟩; have e42 := (hb7.block _ (lt_of_heap d42)).trans d42; have f42 := setRow_heap w7 _ _ #[.int .i64 6, .int .i64 (m : Int)] _ _ e42)
          | ((with_reducible apply wpList_load_row (hu := Try.underlying79)); (with_reducible rfl); (with_reducible rfl); rfl; exact f42; rfl; kernel_rfl)
          | ((with_reducible apply wpList_store_blk); (with_reducible rfl); (with_reducible rfl); rfl; assumption; rfl; kernel_rfl; rfl; kernel_rfl))
        go_ret
        refine ⟨rfl, ?_⟩
        have hg4 := hgr.step hb4
        have hs4 := hg4.2
        have hg5 : Grew w.heap.size w w5 := Grew.step (by repeat (first | exact Grew.refl _ | assumption | refine Grew.alloc ?_ _ | refine Grew.setRow ?_ (by first | assumption | (simp; done) | (simp; omega) | omega) _)) hb5
        have hg6' := (hg5.alloc (.cells #[.string ⟨#[110, 111, 110, 101]⟩] 9)).step hb6
        exact Grew.below (by repeat (first | exact Grew.refl _ | assumption | refine Grew.alloc ?_ _ | refine Grew.drewN ?_ _ | refine Grew.drew ?_ | refine Grew.setRow ?_ (by first | assumption | (simp; done) | (simp; omega) | omega) _ | refine Grew.setCell ?_ (by first | assumption | (simp; done) | (simp; omega) | omega) _ | refine Grew.step ?_ (by assumption)))
      · obtain rfl : len = 8 := by omega
        obtain rfl : m = 8 := by omega
        obtain ⟨g, c, rfl, hg, hgl⟩ := hown.form (by omega)
        have TC := times_all (some ⟨g, 0, none⟩) _ c S t wr (by omega) (row_names hown hgl) h0 h1 HIs.out
        have hpo := prodB_ok (F := fun j => sF t (S j)) (n := 8) (fun j _ => (HA.out j).1) (by omega) 8 (Nat.le_refl _)
        have PA := fun wx => parts_ok (sumP (fun j => sT t (S j)) 8) wx (sumP_lt _ _)
        rw [turnV_lit] at PA
        generalize tX (sumP (fun j => sT t (S j)) 8) = X0 at TC PA
        generalize tY (sumP (fun j => sT t (S j)) 8) = Y0 at TC PA
        generalize sumP (fun j => sT t (S j)) 8 = S0 at PA ⊢
        generalize prodB (fun j => sF t (S j)) 8 = P0 at TC hpo ⊢
        have hor : (FloatKind.f64.format.order P0 P0 != some .eq) = false := by
          obtain ⟨v0, hv0, _⟩ := hpo
          rw [show FloatKind.f64.format.order P0 P0 = some (compare v0 v0) from order_fin hv0 hv0]
          simp
        have HT := hide_ TC
        have PK := hide_ PA
        clear TC PA hpo HA HQ HNm HqL hm hm8 hnil hcm
        obtain ⟨hcp, hcx⟩ := own_cap hown
        have hb1 : 8 + 1 ≤ maxLen := by unfold maxLen; omega
        have hb2 : (8 + 1) * 16 ≤ 140737488355328 := by omega
        go_wp2_with (first
          | (go_at_call 70; (with_reducible refine HT.out.mono ?_); rintro e w4 ⟨rfl, hb4⟩; obtain ⟨a4, a41⟩ := two_blocks w4 #[.int .i64 0, .int .i64 0] #[.int .i64 0, .int .i64 0] 35 79; obtain ⟨b4, b41, b42⟩ := rows_set (c := #[.int .i64 X0, .int .i64 Y0]) (d := #[.int .i64 0, .int .i64 0]) a4 a41; have own4 := own_heap (own_below hown hb4) (fun g1 hg1 => by cases hg1; exact past_eq (Nat.lt_of_lt_of_le hgl hb4.size) #[.int .i64 0, .int .i64 0] #[.int .i64 0, .int .i64 0] #[.int .i64 X0, .int .i64 Y0] #[.int .i64 0, .int .i64 0] 35 79))
          | (go_at_call 51; (with_reducible refine (PK.out _).mono ?_); rintro e w5 ⟨rfl, hb5⟩; have c42 := (hb5.block _ (lt_of_heap b42)).trans b42; have own5 := (own_below own4 hb5).alloc (.cells #[.string ⟨#[110, 111, 110, 101]⟩] 9); have hol : ∀ b, (some ⟨g, 0, none⟩ : Option Addr) = some b → ∀ j u, (nmL S 8)[j]? = some u → (w5.alloc (.cells #[.string ⟨#[110, 111, 110, 101]⟩] 9)).cell? (b.add j) = some u := fun b hb => by cases hb; exact own5.cells rfl)
          | ((with_reducible apply wpList_load_row (hu := Try.underlying35)); (with_reducible rfl); (with_reducible rfl); rfl; exact b41; rfl; kernel_rfl)
          | ((with_reducible apply wpList_load_row (hu := Try.underlying79)); (with_reducible rfl); (with_reducible rfl); rfl; exact c42; rfl; kernel_rfl)
          | (at_builtin; refine wpList_append_grows _ rfl _ _ 28 rfl 9 i0 (.string ⟨#[]⟩) 1 16 Try.underlying28 hi0 hz0 hz1 hz2 rfl (by decide) (some ⟨g, 0, none⟩) 8 8 (nmL S 8) rfl (fun h => by cases h) (by simp [nmL]) hol ⟨w5.heap.size, 0, none⟩ 1 1 [.string ⟨#[110, 111, 110, 101]⟩] rfl rfl (none_cell w5) (by simp [Value.oneCell']) (by omega) hb1 hb2 ?_; intro v6 w6 own6 hg6; have hb6 := grown_below hg6; obtain ⟨g6, c6, rfl, hgg6, hgl6⟩ := own6.form (by omega))
          | ((with_reducible apply wpList_store_blk); (with_reducible rfl); (with_reducible rfl); rfl; assumption; rfl; kernel_rfl; rfl; kernel_rfl))
        go_ret
        refine ⟨rfl, ?_⟩
        have hg4 := hgr.step hb4
        have hs4 := hg4.2
        have hg5 : Grew w.heap.size w w5 := Grew.step (by repeat (first | exact Grew.refl _ | assumption | refine Grew.alloc ?_ _ | refine Grew.setRow ?_ (by first | assumption | (simp; done) | (simp; omega) | omega) _)) hb5
        have hg6' := (hg5.alloc (.cells #[.string ⟨#[110, 111, 110, 101]⟩] 9)).step hb6
        exact Grew.below (by repeat (first | exact Grew.refl _ | assumption | refine Grew.alloc ?_ _ | refine Grew.drewN ?_ _ | refine Grew.drew ?_ | refine Grew.setRow ?_ (by first | assumption | (simp; done) | (simp; omega) | omega) _ | refine Grew.setCell ?_ (by first | assumption | (simp; done) | (simp; omega) | omega) _ | refine Grew.step ?_ (by assumption)))
      · obtain rfl : m = 8 := by omega
        obtain ⟨g, c, rfl, hg, hgl⟩ := hown.form (by omega)
        have TC := times_all (some ⟨g, 0, none⟩) _ c S t wr (by omega) (row_names hown hgl) h0 h1 HIs.out
        have hpo := prodB_ok (F := fun j => sF t (S j)) (n := 8) (fun j _ => (HA.out j).1) (by omega) 8 (Nat.le_refl _)
        have PA := fun wx => parts_ok (sumP (fun j => sT t (S j)) 8) wx (sumP_lt _ _)
        rw [turnV_lit] at PA
        generalize tX (sumP (fun j => sT t (S j)) 8) = X0 at TC PA
        generalize tY (sumP (fun j => sT t (S j)) 8) = Y0 at TC PA
        generalize sumP (fun j => sT t (S j)) 8 = S0 at PA ⊢
        generalize prodB (fun j => sF t (S j)) 8 = P0 at TC hpo ⊢
        have hor : (FloatKind.f64.format.order P0 P0 != some .eq) = false := by
          obtain ⟨v0, hv0, _⟩ := hpo
          rw [show FloatKind.f64.format.order P0 P0 = some (compare v0 v0) from order_fin hv0 hv0]
          simp
        have HT := hide_ TC
        have PK := hide_ PA
        clear TC PA hpo HA HQ HNm HqL hm hm8 hnil hcm
        obtain ⟨hcp, hcx⟩ := own_cap hown
        have hb1 : 8 + 1 ≤ maxLen := by unfold maxLen; omega
        have hb2 : (8 + 1) * 16 ≤ 140737488355328 := by omega
        go_wp2_with (first
          | (go_at_call 70; (with_reducible refine HT.out.mono ?_); rintro e w4 ⟨rfl, hb4⟩; obtain ⟨a4, a41⟩ := two_blocks w4 #[.int .i64 0, .int .i64 0] #[.int .i64 0, .int .i64 0] 35 79; obtain ⟨b4, b41, b42⟩ := rows_set (c := #[.int .i64 X0, .int .i64 Y0]) (d := #[.int .i64 0, .int .i64 0]) a4 a41; have own4 := own_heap (own_below hown hb4) (fun g1 hg1 => by cases hg1; exact past_eq (Nat.lt_of_lt_of_le hgl hb4.size) #[.int .i64 0, .int .i64 0] #[.int .i64 0, .int .i64 0] #[.int .i64 X0, .int .i64 Y0] #[.int .i64 0, .int .i64 0] 35 79))
          | (go_at_call 51; (with_reducible refine (PK.out _).mono ?_); rintro e w5 ⟨rfl, hb5⟩; have c42 := (hb5.block _ (lt_of_heap b42)).trans b42; have own5 := (own_below own4 hb5).alloc (.cells #[.string ⟨#[110, 111, 110, 101]⟩] 9); have hol : ∀ b, (some ⟨g, 0, none⟩ : Option Addr) = some b → ∀ j u, (nmL S 8)[j]? = some u → (w5.alloc (.cells #[.string ⟨#[110, 111, 110, 101]⟩] 9)).cell? (b.add j) = some u := fun b hb => by cases hb; exact own5.cells rfl)
          | ((with_reducible apply wpList_load_row (hu := Try.underlying35)); (with_reducible rfl); (with_reducible rfl); rfl; exact b41; rfl; kernel_rfl)
          | ((with_reducible apply wpList_load_row (hu := Try.underlying79)); (with_reducible rfl); (with_reducible rfl); rfl; exact c42; rfl; kernel_rfl)
          | (at_builtin; refine wpList_append_grows _ rfl _ _ 28 rfl 9 i0 (.string ⟨#[]⟩) 1 16 Try.underlying28 hi0 hz0 hz1 hz2 rfl (by decide) (some ⟨g, 0, none⟩) 8 8 (nmL S 8) rfl (fun h => by cases h) (by simp [nmL]) hol ⟨w5.heap.size, 0, none⟩ 1 1 [.string ⟨#[110, 111, 110, 101]⟩] rfl rfl (none_cell w5) (by simp [Value.oneCell']) (by omega) hb1 hb2 ?_; intro v6 w6 own6 hg6; have hb6 := grown_below hg6; obtain ⟨g6, c6, rfl, hgg6, hgl6⟩ := own6.form (by omega))
          | ((with_reducible apply wpList_store_blk); (with_reducible rfl); (with_reducible rfl); rfl; assumption; rfl; kernel_rfl; rfl; kernel_rfl))
        go_ret
        refine ⟨rfl, ?_⟩
        have hg4 := hgr.step hb4
        have hs4 := hg4.2
        have hg5 : Grew w.heap.size w w5 := Grew.step (by repeat (first | exact Grew.refl _ | assumption | refine Grew.alloc ?_ _ | refine Grew.setRow ?_ (by first | assumption | (simp; done) | (simp; omega) | omega) _)) hb5
        have hg6' := (hg5.alloc (.cells #[.string ⟨#[110, 111, 110, 101]⟩] 9)).step hb6
        exact Grew.below (by repeat (first | exact Grew.refl _ | assumption | refine Grew.alloc ?_ _ | refine Grew.drewN ?_ _ | refine Grew.drew ?_ | refine Grew.setRow ?_ (by first | assumption | (simp; done) | (simp; omega) | omega) _ | refine Grew.setCell ?_ (by first | assumption | (simp; done) | (simp; omega) | omega) _ | refine Grew.step ?_ (by assumption)))
theorem parts_walk (a0 : Option Addr) (len0 cap0 : Nat) (z0 : List Int) (a1 : Int) (w : World) (w0 : (a0 = none ∧ len0 = 0 ∧ cap0 = 0 ∧ z0 = []) ∨
    ∃ x, a0 = some x ∧ len0 ≤ cap0 ∧ cap0 ≤ maxLen ∧ z0.length = cap0 ∧ (∀ i, i < z0.length → w.cell? (x.add i) = some (.int .i64 (z0.getD i 0))) ∧ ∀ n ∈ z0, (Lit.int .i64 n).wf = true) (w1 : (Lit.int .i64 a1).wf = true) :
    Calls Try.prog 12 #[.slice a0 len0 cap0, .int .i64 a1] w fun e w' => e = .returned (.bool true) ∧ Below w.heap.size w w' := by
  have hp := fun wx => pick_ok a1 1048577 wx (by omega) (by omega)
  have ht : 0 ≤ a1 % ((1048577 : Nat) : Int) ∧ a1 % ((1048577 : Nat) : Int) ≤ 1048576 := by omega
  generalize a1 % ((1048577 : Nat) : Int) = t at *
  rcases w0 with ⟨rfl, rfl, rfl, rfl⟩ | ⟨x, rfl, h1, h2, h3, h4, _⟩
  · exact parts_c none 0 0 (fun _ => 0) a1 t w (by omega) (by unfold maxLen; omega) (.inl rfl) ht.1 ht.2 (hide_ hp)
  · exact parts_c (some x) len0 cap0 (fun j => z0.getD j 0) a1 t w h1 h2 (.inr ⟨x, rfl, fun j hj => h4 j (by omega)⟩) ht.1 ht.2 (hide_ hp)
end Go.Proofs.Ytklhdpkofpkmjaa
