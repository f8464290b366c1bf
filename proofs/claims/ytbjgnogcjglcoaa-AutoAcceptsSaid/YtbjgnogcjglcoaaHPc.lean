/- Facts about H's heap: what a new row changes, and that the elder rows stand as they did. -/
import Derived.Test.YtbjgnogcjglcoaaHPb
namespace Go.Proofs.Ytbjgnogcjglcoaa.Hm
open Go
set_option linter.all false
theorem Heap.new_n (h : Heap) (cs : List Value) : (h.new cs).n = h.n + 1 := rfl
theorem get_top (h : Heap) (cs : List Value) : (h.new cs).get h.n = some (.row cs none) := by simp [Heap.get, Heap.new]
theorem get_new (h : Heap) (cs : List Value) {b : Nat} (hb : b < h.n) : (h.new cs).get b = h.get b := by
  have : h.n - b = (h.n - 1 - b) + 1 := by omega
  simp [Heap.get, Heap.new, hb, Nat.lt_succ_of_lt hb, this]
theorem get_lt {h : Heap} {b : Nat} {x : HB} (hx : h.get b = some x) : b < h.n := by
  unfold Heap.get at hx
  split at hx
  · assumption
  · cases hx
theorem cells_lt {h : Heap} {b : Nat} {cs : List Value} (hx : h.cells b = some cs) : b < h.n := by
  unfold Heap.cells at hx
  split at hx
  · rename_i e; exact get_lt e
  · rename_i e; exact get_lt e
  · cases hx
/-- The elder rows stand as they did. -/
structure Heap.le (h h' : Heap) : Prop where
  n : h.n ≤ h'.n
  get : ∀ b, b < h.n → h'.get b = h.get b
  m : h.m ≤ h'.m
  cl : ∀ c, c < h.m → h'.cl c = h.cl c
theorem Heap.le.refl (h : Heap) : h.le h := ⟨Nat.le_refl _, fun _ _ => rfl, Nat.le_refl _, fun _ _ => rfl⟩
theorem Heap.le.trans {h h' h'' : Heap} (a : h.le h') (b : h'.le h'') : h.le h'' :=
  ⟨Nat.le_trans a.n b.n, fun x hx => (b.get x (Nat.lt_of_lt_of_le hx a.n)).trans (a.get x hx), Nat.le_trans a.m b.m, fun c hc => (b.cl c (Nat.lt_of_lt_of_le hc a.m)).trans (a.cl c hc)⟩
theorem Heap.le.new {h h' : Heap} (a : h.le h') (cs : List Value) : h.le (h'.new cs) :=
  a.trans ⟨Nat.le_succ _, fun b hb => get_new _ _ hb, Nat.le_refl _, fun c hc => rfl⟩
theorem Heap.le.cells {h h' : Heap} (a : h.le h') {b : Nat} {cs : List Value} (hx : h.cells b = some cs) : h'.cells b = some cs := by
  have hb := cells_lt hx
  unfold Heap.cells at hx ⊢
  rw [a.get b hb]
  split at hx
  · exact hx
  · rename_i cs2 c e
    split at hx
    · rename_i t fl hc
      have hcm : c < h.m := by
        unfold Heap.cl at hc
        split at hc
        · assumption
        · cases hc
      simp only [a.cl c hcm, hc]
      exact hx
    · cases hx
  · cases hx
theorem Heap.le.rd1 {h h' : Heap} (a : h.le h') {b o : Nat} {v : Value} (hx : h.rd1 b o = some v) : h'.rd1 b o = some v := by
  unfold Heap.rd1 at hx ⊢
  split at hx
  · rename_i cs hc; rw [a.cells hc]; exact hx
  · cases hx
theorem Heap.le.rd {h h' : Heap} (a : h.le h') {b o n : Nat} {v : List Value} (hx : h.rd b o n = some v) : h'.rd b o n = some v := by
  unfold Heap.rd at hx ⊢
  split at hx
  · rename_i cs hc; rw [a.cells hc]; exact hx
  · cases hx
theorem cells_top {h : Heap} {cs : List Value} : (h.new cs).cells h.n = some cs := by simp [Heap.cells, get_top]
theorem rd1_top {h : Heap} {cs : List Value} {o : Nat} {v : Value} (hv : cs[o]? = some v) : (h.new cs).rd1 h.n o = some v := by simp only [Heap.rd1, cells_top, hv]
theorem rd1_skip {h : Heap} {cs : List Value} {b o : Nat} {v : Value} (hv : h.rd1 b o = some v) : (h.new cs).rd1 b o = some v := ((Heap.le.refl h).new cs).rd1 hv
theorem rd_top {h : Heap} {cs : List Value} {o n : Nat} (hv : (o + n).ble cs.length = true) : (h.new cs).rd h.n o n = some ((cs.drop o).take n) := by
  simp only [Heap.rd, cells_top, if_pos (Nat.le_of_ble_eq_true hv)]
theorem rd_all {h : Heap} {cs : List Value} {n : Nat} (hv : cs.length = n) : (h.new cs).rd h.n 0 n = some cs := by
  subst hv
  rw [rd_top (by simp)]; simp
theorem rd_skip {h : Heap} {cs : List Value} {b o n : Nat} {v : List Value} (hv : h.rd b o n = some v) : (h.new cs).rd b o n = some v := ((Heap.le.refl h).new cs).rd hv
/-- A row just made, written whole. -/
theorem wr_top {lo : Nat} {h : Heap} {cs vs : List Value} (hlo : lo ≤ h.n) (hl : vs.length = cs.length) : (h.new cs).wr lo h.n 0 vs = some (h.new vs) := by
  unfold Heap.wr
  rw [cells_top]
  simp only [Nat.zero_add, hl, Nat.le_refl, if_true, List.take_zero, List.nil_append, List.drop_length, List.append_nil]
  unfold Heap.put
  rw [if_neg (by omega), get_top]
  simp [Heap.setB, Heap.new]
/-- A slice of whole numbers, as it lies in memory. -/
def ints (k : IntKind) (h : Heap) (v : Value) (l : List Int) : Prop :=
  ∃ a c, v = .slice a l.length c ∧ (l.length : Int) < 4611686018427387904 ∧ ∀ i x, l[i]? = some x → ∃ b o e, a = some ⟨b, o, e⟩ ∧ h.rd1 b (o + i) = some (.int k x)
theorem ints.le {k : IntKind} {h h' : Heap} {v : Value} {l : List Int} (hl : ints k h v l) (hh : h.le h') : ints k h' v l := by
  obtain ⟨a, c, rfl, h1, h2⟩ := hl
  exact ⟨a, c, rfl, h1, fun i x hx => let ⟨b, o, e, p, q⟩ := h2 i x hx; ⟨b, o, e, p, hh.rd1 q⟩⟩
theorem wrap_i64 {n : Int} (h1 : -9223372036854775808 ≤ n) (h2 : n < 9223372036854775808) : IntKind.i64.wrap n = n := by
  unfold IntKind.wrap
  simp [IntKind.bits, IntKind.signed]
  omega
section
variable {F : Nat → Option HFn} {lo N : Nat} {A : Tab} {h : Heap}
theorem X_addI {x y : Operand} {a b : Int} {K : Value → Heap → Prop} (hx : evA A x = some (.int .i64 a)) (hy : evA A y = some (.int .i64 b)) (h1 : -9223372036854775808 ≤ a + b) (h2 : a + b < 9223372036854775808) (k : K (.int .i64 (a + b)) h) : X F lo (.bin .add x y) N A h K :=
  X_bin hx hy (v := .int .i64 (a + b)) (by
    have : bin .add (.int .i64 a) (.int .i64 b) = some (.int .i64 (IntKind.i64.wrap (a + b))) := rfl
    rw [this, wrap_i64 h1 h2]) k
theorem X_subI {x y : Operand} {a b : Int} {K : Value → Heap → Prop} (hx : evA A x = some (.int .i64 a)) (hy : evA A y = some (.int .i64 b)) (h1 : -9223372036854775808 ≤ a - b) (h2 : a - b < 9223372036854775808) (k : K (.int .i64 (a - b)) h) : X F lo (.bin .sub x y) N A h K :=
  X_bin hx hy (v := .int .i64 (a - b)) (by
    have : bin .sub (.int .i64 a) (.int .i64 b) = some (.int .i64 (IntKind.i64.wrap (a - b))) := rfl
    rw [this, wrap_i64 h1 h2]) k
end
end Go.Proofs.Ytbjgnogcjglcoaa.Hm
