import Derived.Test.YtlidnionbofkaaaA1
namespace Go.Proofs.Ytlidnionbofkaaa.Hm
noncomputable section
open Go
set_option linter.all false
abbrev Tab := List (Nat × Value)
def look : Tab → Nat → Option Value
  | [], _ => none
  | (i, v) :: A, j => match Nat.beq i j with
    | true => some v
    | false => look A j
def Sl (N : Nat) (A : Tab) (σ : List Value) : Prop := σ.length = N ∧ ∀ i v, look A i = some v → σ[i]? = some v
def evA (A : Tab) : Operand → Option Value
  | .tmp t => look A t
  | .const v => some v
  | .func f => some (.func (.func f) #[] #[])
  | .global _ => none
theorem evA_ok {N : Nat} {A : Tab} {σ : List Value} (hs : Sl N A σ) {x : Operand} {v : Value} (h : evA A x = some v) : ev σ x = v := by
  cases x with
  | tmp t => show ev σ (.tmp t) = v; rw [ev_tmp, List.getD_eq_getElem?_getD, hs.2 t v h]; rfl
  | const v => cases h; rfl
  | func f => cases h; rfl
  | global g => cases h
def evsA (A : Tab) : List Operand → Option (List Value)
  | [] => some []
  | x :: xs => match evA A x, evsA A xs with
    | some v, some vs => some (v :: vs)
    | _, _ => none
theorem evsA_ok {N : Nat} {A : Tab} {σ : List Value} (hs : Sl N A σ) : ∀ {xs : List Operand} {vs : List Value}, evsA A xs = some vs → xs.map (ev σ) = vs
  | [], vs, h => by cases h; rfl
  | x :: xs, vs, h => by
    simp only [evsA] at h
    split at h
    · rename_i v vs2 h1 h2
      cases h
      rw [List.map_cons, evA_ok hs h1, evsA_ok hs h2]
    · cases h
def putA (A : Tab) : Option Nat → Value → Tab
  | none, _ => A
  | some d, v => (d, v) :: A
def dlt (N : Nat) : Option Nat → Bool
  | none => true
  | some d => Nat.blt d N
theorem Sl.put {N : Nat} {A : Tab} {σ : List Value} (hs : Sl N A σ) {d : Option Nat} {v : Value} (hd : dlt N d = true) : Sl N (putA A d v) (putD σ d v) := by
  cases d with
  | none => exact hs
  | some d =>
    have hd : d < N := by simpa [dlt] using hd
    refine ⟨by simp [putD, setS_eq, hs.1], fun i w hw => ?_⟩
    simp only [putA, look] at hw
    simp only [putD, setS_eq]
    split at hw
    · rename_i hb
      cases hw
      have : d = i := by simpa using hb
      subst this
      rw [List.getElem?_set_self (by rw [hs.1]; exact hd)]
    · rename_i hb
      have : d ≠ i := fun e => by subst e; simp at hb
      rw [List.getElem?_set_ne this]
      exact hs.2 i w hw
def SubT : Tab → Tab → Prop
  | [], _ => True
  | (i, v) :: B, A => look A i = some v ∧ SubT B A
theorem SubT.look {A : Tab} : ∀ {B : Tab}, SubT B A → ∀ i v, look B i = some v → look A i = some v
  | [], _, i, v, h => by cases h
  | (j, w) :: B, hs, i, v, h => by
    simp only [Hm.look] at h
    split at h
    · rename_i hb
      have : j = i := by simpa using hb
      subst this; cases h; exact hs.1
    · exact SubT.look hs.2 i v h
theorem Sl.sub {N : Nat} {A B : Tab} {σ : List Value} (hs : Sl N A σ) (hb : SubT B A) : Sl N B σ := ⟨hs.1, fun i v h => hs.2 i v (hb.look i v h)⟩
def argsA : Nat → List Value → Tab
  | _, [] => []
  | i, v :: vs => (i, v) :: argsA (i + 1) vs
theorem argsA_look : ∀ {vs : List Value} {i j : Nat} {v : Value}, look (argsA i vs) j = some v → i ≤ j ∧ vs[j - i]? = some v
  | [], i, j, v, h => by cases h
  | x :: vs, i, j, v, h => by
    simp only [argsA, look] at h
    split at h
    · rename_i hb
      have : i = j := by simpa using hb
      subst this; cases h; simp
    · obtain ⟨h1, h2⟩ := argsA_look h
      refine ⟨by omega, ?_⟩
      have : j - i = (j - (i + 1)) + 1 := by omega
      rw [this]; simpa using h2
theorem Sl.args {N : Nat} {vs : List Value} (h : vs.length ≤ N) : Sl N (argsA 0 vs) (vs ++ List.replicate (N - vs.length) undef) := by
  refine ⟨by simp; omega, fun i v hv => ?_⟩
  obtain ⟨_, h2⟩ := argsA_look hv
  simp only [Nat.sub_zero] at h2
  have : i < vs.length := by
    rcases Nat.lt_or_ge i vs.length with h | h
    · exact h
    · rw [List.getElem?_eq_none h] at h2; cases h2
  rw [List.getElem?_append_left this]; exact h2
theorem wanted_tab {N : Nat} {A : Tab} {σ : List Value} (hs : Sl N A σ) {t : Nat} {b c : Bool} (hl : look A t = some (.bool c)) : wantedH σ (some (t, b)) = (c == b) := by
  simp only [wantedH, hs.2 t _ hl, atR_eq]
end
end Go.Proofs.Ytlidnionbofkaaa.Hm
namespace Go.Proofs.Ytlidnionbofkaaa.Hm
noncomputable section
open Go
set_option linter.all false
theorem get_top (h : Heap) (cs : List Value) : (h.new cs).get h.n = some (.row cs none) := by simp [Heap.get_def, Heap.new]
theorem get_new (h : Heap) (cs : List Value) {b : Nat} (hb : b < h.n) : (h.new cs).get b = h.get b := by
  have : h.n - b = (h.n - 1 - b) + 1 := by omega
  simp [Heap.get_def, Heap.new, hb, Nat.lt_succ_of_lt hb, this]
theorem get_lt {h : Heap} {b : Nat} {x : HB} (hx : h.get b = some x) : b < h.n := by
  rw [Heap.get_def] at hx
  split at hx
  · assumption
  · cases hx
theorem cells_lt {h : Heap} {b : Nat} {cs : List Value} (hx : h.cells b = some cs) : b < h.n := by
  unfold Heap.cells at hx
  split at hx
  · rename_i e; exact get_lt e
  · rename_i e; exact get_lt e
  · cases hx
structure Heap.le (h h' : Heap) : Prop where
  n : h.n ≤ h'.n
  get : ∀ b, b < h.n → h'.get b = h.get b
  m : h.m ≤ h'.m
  cl : ∀ c, c < h.m → h'.cl c = h.cl c
theorem Heap.le.refl (h : Heap) : h.le h := ⟨Nat.le_refl _, fun _ _ => rfl, Nat.le_refl _, fun _ _ => rfl⟩
theorem Heap.le.trans {h h' h'' : Heap} (a : h.le h') (b : h'.le h'') : h.le h'' :=
  ⟨Nat.le_trans a.n b.n, fun x hx => (b.get x (Nat.lt_of_lt_of_le hx a.n)).trans (a.get x hx), Nat.le_trans a.m b.m, fun c hc => (b.cl c (Nat.lt_of_lt_of_le hc a.m)).trans (a.cl c hc)⟩
theorem Heap.le.new {h h' : Heap} (a : h.le h') (cs : List Value) : h.le (h'.new cs) :=
  a.trans ⟨Nat.le_succ _, fun b hb => Hm.get_new _ _ hb, Nat.le_refl _, fun c hc => rfl⟩
theorem Heap.le.cells {h h' : Heap} (a : h.le h') {b : Nat} {cs : List Value} (hx : h.cells b = some cs) : h'.cells b = some cs := by
  have hb := cells_lt hx
  unfold Heap.cells at hx ⊢
  rw [a.get b hb]
  split at hx
  · exact hx
  · rename_i cs2 c e
    split at hx
    · rename_i t fl hc
      have hcm : c < h.m := by
        unfold Heap.cl at hc
        split at hc
        · assumption
        · cases hc
      simp only [a.cl c hcm, hc]
      exact hx
    · cases hx
  · cases hx
theorem Heap.le.rd1 {h h' : Heap} (a : h.le h') {b o : Nat} {v : Value} (hx : h.rd1 b o = some v) : h'.rd1 b o = some v := by
  unfold Heap.rd1 at hx ⊢
  split at hx
  · rename_i cs hc; rw [a.cells hc]; exact hx
  · cases hx
theorem Heap.le.rd {h h' : Heap} (a : h.le h') {b o n : Nat} {v : List Value} (hx : h.rd b o n = some v) : h'.rd b o n = some v := by
  unfold Heap.rd at hx ⊢
  split at hx
  · rename_i cs hc; rw [a.cells hc]; exact hx
  · cases hx
theorem cells_top {h : Heap} {cs : List Value} : (h.new cs).cells h.n = some cs := by simp [Heap.cells, get_top]
theorem rd_top {h : Heap} {cs : List Value} {o n : Nat} (hv : (o + n).ble cs.length = true) : (h.new cs).rd h.n o n = some ((cs.drop o).take n) := by
  simp only [Heap.rd, cells_top, if_pos (Nat.le_of_ble_eq_true hv)]
def ints (k : IntKind) (h : Heap) (v : Value) (l : List Int) : Prop :=
  ∃ a c, v = .slice a l.length c ∧ (l.length : Int) < 4611686018427387904 ∧ ∀ i x, l[i]? = some x → ∃ b o e, a = some ⟨b, o, e⟩ ∧ h.rd1 b (o + i) = some (.int k x)
theorem ints.le {k : IntKind} {h h' : Heap} {v : Value} {l : List Int} (hl : ints k h v l) (hh : h.le h') : ints k h' v l := by
  obtain ⟨a, c, rfl, h1, h2⟩ := hl
  exact ⟨a, c, rfl, h1, fun i x hx => let ⟨b, o, e, p, q⟩ := h2 i x hx; ⟨b, o, e, p, hh.rd1 q⟩⟩
theorem wrap_i64 {n : Int} (h1 : -9223372036854775808 ≤ n) (h2 : n < 9223372036854775808) : IntKind.i64.wrap n = n := by
  unfold IntKind.wrap
  simp [IntKind.bits, IntKind.signed]
  omega
theorem bin_lss {k : IntKind} {a b : Int} : bin .lss (.int k a) (.int k b) = some (.bool (decide (a < b))) := by
  simp only [bin, Op.intCmp, ne_eq, not_true_eq_false, if_false]; rfl
theorem bin_leq {k : IntKind} {a b : Int} : bin .leq (.int k a) (.int k b) = some (.bool (decide (a ≤ b))) := by
  simp only [bin, Op.intCmp, ne_eq, not_true_eq_false, if_false]; rfl
theorem bin_gtr {k : IntKind} {a b : Int} : bin .gtr (.int k a) (.int k b) = some (.bool (decide (b < a))) := by
  simp only [bin, Op.intCmp, ne_eq, not_true_eq_false, if_false]; rfl
theorem bin_geq {k : IntKind} {a b : Int} : bin .geq (.int k a) (.int k b) = some (.bool (decide (b ≤ a))) := by
  simp only [bin, Op.intCmp, ne_eq, not_true_eq_false, if_false]; rfl
theorem bin_eql {k : IntKind} {a b : Int} : bin .eql (.int k a) (.int k b) = some (.bool (decide (a = b))) := by
  simp only [bin, Op.intCmp, ne_eq, not_true_eq_false, if_false]; first | rfl | simp [pureRun] | (simp [pureRun]; exact (beq_eq_decide a b))
theorem bin_neq {k : IntKind} {a b : Int} : bin .neq (.int k a) (.int k b) = some (.bool (decide (a ≠ b))) := by
  have h1 : bin .neq (.int k a) (.int k b) = some (.bool (a != b)) := by
    simp only [bin, Op.intCmp, ne_eq, not_true_eq_false, if_false]; rfl
  rw [h1]
  by_cases h : a = b <;> simp [h]
end
end Go.Proofs.Ytlidnionbofkaaa.Hm
