/- Chapter 12: factor and turn of a product, in the program: the contract of Times. -/
import Derived.Test.YtklhdpkofpkmjaaBd2
namespace Go.Proofs.Ytklhdpkofpkmjaa
open Go.RowKit Ieee
set_option linter.unusedVariables false
set_option maxRecDepth 100000
def tX (P : Nat) : Int := ((P / Nat.gcd 3600000 P : Nat) : Int)
def tY (P : Nat) : Int := ((3600000 / Nat.gcd 3600000 P : Nat) : Int)
theorem turnV_lit (P : Nat) : turnV P 3600000 = #[.int .i64 (tX P), .int .i64 (tY P)] := rfl
theorem add_parts (P Q : Nat) (w : World) (hP : P < 3600000) (hQ : Q < 3600000) :
    Calls Try.prog 31 #[.agg #[.int .i64 (tX P), .int .i64 (tY P)], .agg #[.int .i64 (tX Q), .int .i64 (tY Q)]] w fun e w' => e = .returned (.tuple #[.agg #[.int .i64 (tX ((P + Q) % 3600000)), .int .i64 (tY ((P + Q) % 3600000))], .int .i64 0]) ∧ Below w.heap.size w w' :=
  add_turn P Q 3600000 w hP hQ (by omega)
theorem find_fun : ∃ (c0 c1 c2 : ByteArray → Nat) (b : ByteArray → Bool), ∀ s, RowB (c0 s) (c1 s) (c2 s) ∧
    (∀ wx : World, Calls Try.prog 90 #[.string s] wx fun e w' => e = .returned (.tuple #[.agg #[.float .f64 (c0 s), .float .f64 (c1 s), .float .f64 (c2 s)], .bool (b s)]) ∧ Below wx.heap.size wx w') ∧
    (∀ wx : World, Calls Try.prog 92 #[.string s] wx fun e w' => e = .returned (.tuple #[.float .f64 (c0 s), .float .f64 (c1 s), .float .f64 (c2 s), .bool (b s)]) ∧ Below wx.heap.size wx w') :=
  ⟨fun s => Classical.choose (find_alike12 s), fun s => Classical.choose (Classical.choose_spec (find_alike12 s)), fun s => Classical.choose (Classical.choose_spec (Classical.choose_spec (find_alike12 s))),
    fun s => Classical.choose (Classical.choose_spec (Classical.choose_spec (Classical.choose_spec (find_alike12 s)))), fun s => Classical.choose_spec (Classical.choose_spec (Classical.choose_spec (Classical.choose_spec (find_alike12 s))))⟩
/-- The product of the first k factors. -/
def prodB (F : Nat → Nat) : Nat → Nat
  | 0 => ONE
  | k + 1 => fm (prodB F k) (F k)
/-- The sum of the first k turns. -/
def sumP (T : Nat → Nat) : Nat → Nat
  | 0 => 0
  | k + 1 => (sumP T k + T k) % 3600000
theorem sumP_lt (T : Nat → Nat) (k : Nat) : sumP T k < 3600000 := by
  cases k with
  | zero => exact (by decide : 0 < 3600000)
  | succ k => exact Nat.mod_lt _ (by decide)
theorem prodB_ok {F : Nat → Nat} {n : Nat} (hF : ∀ j, j < n → AbsN 4 (F j)) (hn : n ≤ 8) (k : Nat) (hk : k ≤ n) : AbsN (4 ^ k) (prodB F k) := by
  induction k with
  | zero => exact ⟨_, pos_const ONE (by decide), by rw [valR_one]; simp, (by decide : ONE < 2 ^ 64)⟩
  | succ k ih =>
    have h1 := ih (by omega)
    have h2 : 4 ^ k ≤ 4 ^ 8 := Nat.pow_le_pow_right (by decide) (by omega)
    exact (h1.mul (hF k (by omega)) (by omega)).2
theorem prodB_step {F : Nat → Nat} {n : Nat} (hF : ∀ j, j < n → AbsN 4 (F j)) (hn : n ≤ 8) (k : Nat) (hk : k < n) : double.mul (prodB F k) (F k) = some (prodB F (k + 1)) := by
  have h2 : 4 ^ k ≤ 4 ^ 8 := Nat.pow_le_pow_right (by decide) (by omega)
  exact ((prodB_ok hF hn k (by omega)).mul (hF k hk) (by omega)).1
theorem ret_tcc {P : Program} {fn : Func} {R : Ending → World → Prop} {a : Act} {w : World} {p q t : Tmp} {ty tz : TypeId} (h : fn.results = #[.tmp t, .cell p ty, .cell q tz]) (g g2 : Nat) (T T2 : TypeId) (cs cs2 : Array Value) (d d2 : TypeDesc)
    (hp : a.tmps.getD p undef = .pointer (some ⟨g, 0, none⟩)) (hg : w.heap[g]? = some (.cells cs T (0, 0))) (hu : P.underlying ty = some d) (hd : (match d with | .struct _ | .array _ _ => true | _ => false) = true) (hi : (P.info? ty).map (·.size) = some cs.size)
    (hp2 : a.tmps.getD q undef = .pointer (some ⟨g2, 0, none⟩)) (hg2 : w.heap[g2]? = some (.cells cs2 T2 (0, 0))) (hu2 : P.underlying tz = some d2) (hd2 : (match d2 with | .struct _ | .array _ _ => true | _ => false) = true) (hi2 : (P.info? tz).map (·.size) = some cs2.size)
    (hdf : a.defers = []) (hR : R (.returned (.tuple #[a.tmps.getD t undef, .agg cs, .agg cs2])) w) : bodyPost P fn R .ret a w := by
  refine bodyPost_ret (v := .tuple #[a.tmps.getD t undef, .agg cs, .agg cs2]) ?_ hdf hR
  have hp' : a.tmps[p]?.getD undef = .pointer (some ⟨g, 0, none⟩) := by simpa using hp
  have hq' : a.tmps[q]?.getD undef = .pointer (some ⟨g2, 0, none⟩) := by simpa using hp2
  simp [results, h, hp', hq', asAddr, run_loadVar_row w g T ty cs (0, 0) d hg hu hd hi, run_loadVar_row w g2 T2 tz cs2 (0, 0) d2 hg2 hu2 hd2 hi2]
theorem two_blocks (w : World) (a b : Array Value) (S T : TypeId) : ((w.alloc (.cells a S)).alloc (.cells b T)).heap[w.heap.size]? = some (.cells a S) ∧ ((w.alloc (.cells a S)).alloc (.cells b T)).heap[w.heap.size + 1]? = some (.cells b T) :=
  ⟨heap_past (heap_alloc_last _ _), heap_at1 _ _ _⟩
theorem rows_set {w : World} {B : Nat} {a b c d : Array Value} {S T : TypeId} (h0 : w.heap[B]? = some (.cells a S)) (h1 : w.heap[B + 1]? = some (.cells b T)) :
    (w.setRow B c).heap[B + 1]? = some (.cells b T) ∧ ((w.setRow B c).setRow (B + 1) d).heap[B]? = some (.cells c S) ∧ ((w.setRow B c).setRow (B + 1) d).heap[B + 1]? = some (.cells d T) := by
  have k := (setRow_other w B (B + 1) c (by omega)).trans h1
  exact ⟨k, (setRow_other _ _ _ d (by omega)).trans (setRow_heap _ _ _ c _ _ h0), setRow_heap _ _ _ d _ _ k⟩
theorem times_long (v : Option Addr) (n c : Nat) (t : Int) (w : World) (h : 8 < n) (h2 : n ≤ 1048576) : Calls Try.prog 70 #[.slice v n c, .int .i64 t] w fun e w' =>
    e = .returned (.tuple #[.float .f64 0, .agg #[.int .i64 0, .int .i64 0], .agg #[.int .i64 3, .int .i64 (-1)]]) ∧ Below w.heap.size w w' := by
  obtain ⟨a0, a1⟩ := two_blocks w #[.int .i64 0, .int .i64 0] #[.int .i64 0, .int .i64 0] 35 79
  obtain ⟨b0, b1, b2⟩ := rows_set (c := #[.int .i64 0, .int .i64 0]) (d := #[.int .i64 3, .int .i64 (-1)]) a0 a1
  go_enter Try.func70, Try.ntmps70
  go_wp2_with ((with_reducible apply wpList_store_blk); (with_reducible rfl); (with_reducible rfl); rfl; assumption; rfl; kernel_rfl; rfl; kernel_rfl)
  refine ret_tcc rfl _ _ 35 79 _ _ _ _ rfl b1 Try.underlying35 rfl (by kernel_rfl) rfl b2 Try.underlying79 rfl (by kernel_rfl) rfl ⟨rfl, ?_⟩
  exact Grew.below (by repeat (first | exact Grew.refl _ | assumption | refine Grew.alloc ?_ _ | refine Grew.drewN ?_ _ | refine Grew.drew ?_ | refine Grew.setRow ?_ (by first | assumption | (simp; done) | (simp; omega) | omega) _ | refine Grew.setCell ?_ (by first | assumption | (simp; done) | (simp; omega) | omega) _ | refine Grew.step ?_ (by assumption)))
theorem times_node (v : Option Addr) (n c : Nat) (t e1 : Int) (w : World) (h : n ≤ 8) (he : e1 ≠ 0) (HN : Hid (∀ wx : World, Calls Try.prog 66 #[.int .i64 t] wx fun e w' => e = .returned (.tuple #[.complex .f64 0 0, .int .i64 e1]) ∧ Below wx.heap.size wx w')) :
    Calls Try.prog 70 #[.slice v n c, .int .i64 t] w fun e w' =>
    e = .returned (.tuple #[.float .f64 0, .agg #[.int .i64 0, .int .i64 0], .agg #[.int .i64 e1, .int .i64 (-1)]]) ∧ Below w.heap.size w w' := by
  have hb : (e1 != 0) = true := by simpa using he
  clear he
  obtain ⟨a0, a1⟩ := two_blocks w #[.int .i64 0, .int .i64 0] #[.int .i64 0, .int .i64 0] 35 79
  go_enter Try.func70, Try.ntmps70
  go_wp2_with (first
    | (go_at_call 66; (with_reducible refine (HN.out _).mono ?_); rintro e w1 ⟨rfl, hb1⟩; have a2 := (hb1.block _ (lt_of_heap a0)).trans a0; have a3 := (hb1.block _ (lt_of_heap a1)).trans a1; obtain ⟨b0, b1, b2⟩ := rows_set (c := #[.int .i64 0, .int .i64 0]) (d := #[.int .i64 e1, .int .i64 (-1)]) a2 a3)
    | ((with_reducible apply wpList_store_blk); (with_reducible rfl); (with_reducible rfl); rfl; assumption; rfl; kernel_rfl; rfl; kernel_rfl))
  refine ret_tcc rfl _ _ 35 79 _ _ _ _ rfl b1 Try.underlying35 rfl (by kernel_rfl) rfl b2 Try.underlying79 rfl (by kernel_rfl) rfl ⟨rfl, ?_⟩
  have hg0 := (((Grew.refl w).alloc (.cells #[.int .i64 0, .int .i64 0] 35)).alloc (.cells #[.int .i64 0, .int .i64 0] 79)).step hb1
  exact Grew.below (by repeat (first | exact Grew.refl _ | assumption | refine Grew.alloc ?_ _ | refine Grew.drewN ?_ _ | refine Grew.drew ?_ | refine Grew.setRow ?_ (by first | assumption | (simp; done) | (simp; omega) | omega) _ | refine Grew.setCell ?_ (by first | assumption | (simp; done) | (simp; omega) | omega) _ | refine Grew.step ?_ (by assumption)))
end Go.Proofs.Ytklhdpkofpkmjaa
