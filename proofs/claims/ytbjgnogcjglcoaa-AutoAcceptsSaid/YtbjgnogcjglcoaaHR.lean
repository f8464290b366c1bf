/- What it means that H's heap tells the machine's memory: values with other block numbers, rows cell by cell, maps entry by entry; and that this stays so where a row is made, written, or grown. -/
import Derived.Test.YtbjgnogcjglcoaaHD
namespace Go.Proofs.Ytbjgnogcjglcoaa.Hm
open Go Go.RowKit
set_option linter.all false
set_option linter.unusedSimpArgs false

/-! ### the heap's own laws -/
theorem Heap.get_lt {h : Heap} {b : Nat} {x : HB} (e : h.get b = some x) : b < h.n := by
  unfold Heap.get at e; split at e
  · assumption
  · cases e
theorem Heap.cl_lt {h : Heap} {c : Nat} {x : Nat × Nat} (e : h.cl c = some x) : c < h.m := by
  unfold Heap.cl at e; split at e
  · assumption
  · cases e
theorem Heap.get_push (h : Heap) (x : HB) (cs : List (Nat × Nat)) (m b : Nat) :
    (Heap.mk (x :: h.bs) (h.n + 1) cs m).get b = if b = h.n then some x else h.get b := by
  unfold Heap.get
  by_cases e : b = h.n
  · subst e; simp
  · by_cases hlt : b < h.n
    · have h1 : h.n + 1 - 1 - b = (h.n - 1 - b) + 1 := by omega
      simp only [e, if_false, show b < h.n + 1 by omega, hlt, if_true, h1, List.getElem?_cons_succ]
    · simp [e, hlt, show ¬ b < h.n + 1 by omega]
theorem Heap.get_new (h : Heap) (cs : List Value) (b : Nat) : (h.new cs).get b = if b = h.n then some (.row cs none) else h.get b := Heap.get_push h _ _ _ b
theorem Heap.cl_new (h : Heap) (cs : List Value) (c : Nat) : (h.new cs).cl c = h.cl c := rfl
theorem Heap.get_newMap (h : Heap) (b : Nat) : h.newMap.get b = if b = h.n then some (.map [] 0) else h.get b := Heap.get_push h _ _ _ b
theorem Heap.cl_newMap (h : Heap) (c : Nat) : h.newMap.cl c = h.cl c := rfl
theorem Heap.get_newC (h : Heap) (cs : List Value) (b : Nat) : (h.newC cs).get b = if b = h.n then some (.row cs (some h.m)) else h.get b := Heap.get_push h _ _ _ b
theorem Heap.cl_newC (h : Heap) (cs : List Value) (c : Nat) : (h.newC cs).cl c = if c = h.m then some (h.n, 0) else h.cl c := by
  unfold Heap.cl Heap.newC
  by_cases e : c = h.m
  · subst e; simp
  · by_cases hlt : c < h.m
    · have h1 : h.m + 1 - 1 - c = (h.m - 1 - c) + 1 := by omega
      simp only [e, if_false, show c < h.m + 1 by omega, hlt, if_true, h1, List.getElem?_cons_succ]
    · simp [e, hlt, show ¬ c < h.m + 1 by omega]
theorem Heap.get_extC (h : Heap) (c fl : Nat) (cs : List Value) (b : Nat) : (h.extC c fl cs).get b = if b = h.n then some (.row cs (some c)) else h.get b := Heap.get_push h _ _ _ b
theorem Heap.cl_set {h : Heap} {c : Nat} {y : Nat × Nat} (bs : List HB) (n : Nat) (e : h.cl c = some y) (x : Nat × Nat) (c' : Nat) :
    (Heap.mk bs n (h.cs.set (h.m - 1 - c) x) h.m).cl c' = if c' = c then some x else h.cl c' := by
  have hc := Heap.cl_lt e
  unfold Heap.cl at e ⊢
  simp only [hc, if_true] at e
  by_cases e' : c' = c
  · subst e'
    simp only [hc, if_true, List.getElem?_set_self']
    rw [e]; rfl
  · by_cases hlt : c' < h.m
    · have : h.m - 1 - c ≠ h.m - 1 - c' := by omega
      simp only [hlt, e', if_true, if_false, List.getElem?_set_ne this]
    · simp [hlt, e']
theorem Heap.cl_extC {h : Heap} {c : Nat} {y : Nat × Nat} (e : h.cl c = some y) (fl : Nat) (cs : List Value) (c' : Nat) :
    (h.extC c fl cs).cl c' = if c' = c then some (h.n, fl) else h.cl c' := Heap.cl_set _ _ e _ c'
theorem Heap.cl_setC {h : Heap} {c : Nat} {y : Nat × Nat} (e : h.cl c = some y) (x : Nat × Nat) (c' : Nat) :
    (h.setC c x).cl c' = if c' = c then some x else h.cl c' := Heap.cl_set _ _ e _ c'
theorem Heap.get_setC (h : Heap) (c : Nat) (x : Nat × Nat) (b : Nat) : (h.setC c x).get b = h.get b := rfl
theorem Heap.cl_setB (h : Heap) (b : Nat) (x : HB) (c : Nat) : (h.setB b x).cl c = h.cl c := rfl
theorem Heap.get_setB {h : Heap} {b : Nat} {y : HB} (e : h.get b = some y) (x : HB) (b' : Nat) : (h.setB b x).get b' = if b' = b then some x else h.get b' := by
  have hb := Heap.get_lt e
  unfold Heap.get Heap.setB at *
  simp only [hb, if_true] at e
  by_cases e' : b' = b
  · subst e'
    simp only [hb, if_true, List.getElem?_set_self']
    rw [e]; rfl
  · by_cases hlt : b' < h.n
    · have : h.n - 1 - b ≠ h.n - 1 - b' := by omega
      simp only [hlt, e', if_true, if_false, List.getElem?_set_ne this]
    · simp [hlt, e']
theorem Heap.cells_some {h : Heap} {b : Nat} {cs : List Value} (e : h.cells b = some cs) :
    h.get b = some (.row cs none) ∨ ∃ c tip fl, h.get b = some (.row cs (some c)) ∧ h.cl c = some (tip, fl) ∧ fl ≤ b := by
  unfold Heap.cells at e
  split at e
  · cases e; left; assumption
  · rename_i cs' c hg
    split at e
    · rename_i fl hc
      split at e
      · cases e; right; exact ⟨c, _, _, hg, hc, by assumption⟩
      · cases e
    · cases e
  · cases e
theorem Heap.cells_congr {h h' : Heap} {b : Nat} (hg : h'.get b = h.get b) (hc : ∀ c cs, h.get b = some (.row cs (some c)) → h'.cl c = h.cl c) : h'.cells b = h.cells b := by
  unfold Heap.cells
  rw [hg]
  split
  · rfl
  · rename_i cs c e; rw [hc c cs e]
  · rfl

/-! ### values told -/
abbrev Rho := Nat → Option (Nat × Nat)
def rowSize (w : World) (r : Nat) : Nat := match w.heap[r]? with
  | some (.cells c _ _) => c.size
  | _ => 0
def cell1 : Value → Bool
  | .agg _ | .tuple _ => false
  | _ => true
inductive VR (ρ : Rho) (w : World) : Value → Value → Prop
  | bool (b : Bool) : VR ρ w (.bool b) (.bool b)
  | int (k : IntKind) (n : Int) : VR ρ w (.int k n) (.int k n)
  | str (s : ByteArray) : VR ρ w (.string s) (.string s)
  | nilp : VR ρ w (.pointer none) (.pointer none)
  | ptr (b r s o : Nat) (h : ρ b = some (r, s)) : VR ρ w (.pointer (some ⟨b, o, none⟩)) (.pointer (some ⟨r, s + o, none⟩))
  | nils : VR ρ w (.slice none 0 0) (.slice none 0 0)
  | sle (b r s o len cap : Nat) (h : ρ b = some (r, s)) : VR ρ w (.slice (some ⟨b, o, none⟩) len cap) (.slice (some ⟨r, s + o, none⟩) len cap)
  | sli (b r s o len cap cap' e : Nat) (h : ρ b = some (r, s)) (hc : cap ≤ cap') (hr : s + o + cap' * e ≤ rowSize w r) :
      VR ρ w (.slice (some ⟨b, o, some e⟩) len cap) (.slice (some ⟨r, s + o, none⟩) len cap')
  | slz (b o e r s o' : Nat) (h : ρ b = some (r, s)) : VR ρ w (.slice (some ⟨b, o, some e⟩) 0 0) (.slice (some ⟨r, o', none⟩) 0 0)
  | sez (b o : Nat) (a : Addr) : VR ρ w (.slice (some ⟨b, o, none⟩) 0 0) (.slice (some a) 0 0)
  | nilm : VR ρ w (.map none) (.map none)
  | map (b r : Nat) (h : ρ b = some (r, 0)) : VR ρ w (.map (some b)) (.map (some r))
  | nilf : VR ρ w .nilFunc .nilFunc
  | fn (f : Fn) (a a' c c' : Array Value) (ha : a.size = a'.size) (hc : c.size = c'.size)
      (hva : ∀ i, i < a.size → VR ρ w (a.getD i undef) (a'.getD i undef)) (hvc : ∀ i, i < c.size → VR ρ w (c.getD i undef) (c'.getD i undef)) :
      VR ρ w (.func f a c) (.func f a' c')
  | nili : VR ρ w .nilIface .nilIface
  | iface (t : TypeId) (v v' : Value) (h : VR ρ w v v') : VR ρ w (.iface t v) (.iface t v')
  | agg (a a' : Array Value) (ha : a.size = a'.size) (h1 : ∀ i, i < a.size → cell1 (a.getD i undef) = true)
      (hv : ∀ i, i < a.size → VR ρ w (a.getD i undef) (a'.getD i undef)) : VR ρ w (.agg a) (.agg a')
  | tup (a a' : Array Value) (ha : a.size = a'.size) (hv : ∀ i, i < a.size → VR ρ w (a.getD i undef) (a'.getD i undef)) : VR ρ w (.tuple a) (.tuple a')
theorem VR.mono {ρ ρ' : Rho} {w w' : World} (hρ : ∀ b x, ρ b = some x → ρ' b = some x) (hw : ∀ r, rowSize w r ≤ rowSize w' r) {v v' : Value} (h : VR ρ w v v') : VR ρ' w' v v' := by
  induction h with
  | bool b => exact .bool b
  | int k n => exact .int k n
  | str s => exact .str s
  | nilp => exact .nilp
  | ptr b r s o h => exact .ptr b r s o (hρ _ _ h)
  | nils => exact .nils
  | sle b r s o len cap h => exact .sle b r s o len cap (hρ _ _ h)
  | sli b r s o len cap cap' e h hc hr => exact .sli b r s o len cap cap' e (hρ _ _ h) hc (Nat.le_trans hr (hw r))
  | slz b o e r s o' h => exact .slz b o e r s o' (hρ _ _ h)
  | sez b o a => exact .sez b o a
  | nilm => exact .nilm
  | map b r h => exact .map b r (hρ _ _ h)
  | nilf => exact .nilf
  | fn f a a' c c' ha hc hva hvc iha ihc => exact .fn f a a' c c' ha hc iha ihc
  | nili => exact .nili
  | iface t v v' h ih => exact .iface t v v' ih
  | agg a a' ha h1 hv ih => exact .agg a a' ha h1 ih
  | tup a a' ha hv ih => exact .tup a a' ha ih
/-- Lists of values, one by one. -/
def VRl (ρ : Rho) (w : World) (l l' : List Value) : Prop := l.length = l'.length ∧ ∀ i, i < l.length → VR ρ w (l.getD i undef) (l'.getD i undef)
theorem VRl.mono {ρ ρ' : Rho} {w w' : World} (hρ : ∀ b x, ρ b = some x → ρ' b = some x) (hw : ∀ r, rowSize w r ≤ rowSize w' r) {l l' : List Value} (h : VRl ρ w l l') : VRl ρ' w' l l' :=
  ⟨h.1, fun i hi => (h.2 i hi).mono hρ hw⟩
theorem VRl.nil (ρ : Rho) (w : World) : VRl ρ w [] [] := ⟨rfl, fun i hi => absurd hi (by simp)⟩
theorem VRl.cons {ρ : Rho} {w : World} {v v' : Value} {l l' : List Value} (h : VR ρ w v v') (hl : VRl ρ w l l') : VRl ρ w (v :: l) (v' :: l') :=
  ⟨by simp [hl.1], fun i hi => by cases i with
    | zero => simpa using h
    | succ i => simpa using hl.2 i (by simpa using hi)⟩
theorem VRl.append {ρ : Rho} {w : World} {a a' b b' : List Value} (h : VRl ρ w a a') (k : VRl ρ w b b') : VRl ρ w (a ++ b) (a' ++ b') := by
  refine ⟨by simp [h.1, k.1], fun i hi => ?_⟩
  by_cases hlt : i < a.length
  · have := h.2 i hlt
    simpa [List.getD_eq_getElem?_getD, List.getElem?_append_left hlt, List.getElem?_append_left (h.1 ▸ hlt)] using this
  · have hk := k.2 (i - a.length) (by simp at hi; omega)
    simp only [List.getD_eq_getElem?_getD] at hk ⊢
    rw [List.getElem?_append_right (by omega), List.getElem?_append_right (by rw [← h.1]; omega), ← h.1]
    exact hk
theorem VRl.drop {ρ : Rho} {w : World} {a a' : List Value} (h : VRl ρ w a a') (n : Nat) : VRl ρ w (a.drop n) (a'.drop n) := by
  refine ⟨by simp [h.1], fun i hi => ?_⟩
  have := h.2 (n + i) (by simp at hi; omega)
  simpa [List.getD_eq_getElem?_getD, List.getElem?_drop] using this
theorem VRl.take {ρ : Rho} {w : World} {a a' : List Value} (h : VRl ρ w a a') (n : Nat) : VRl ρ w (a.take n) (a'.take n) := by
  refine ⟨by simp [h.1], fun i hi => ?_⟩
  simp at hi
  have hn : i < n := by omega
  have := h.2 i (by omega)
  simpa [List.getD_eq_getElem?_getD, List.getElem?_take, hn] using this
theorem VRl.set {ρ : Rho} {w : World} {a a' : List Value} (h : VRl ρ w a a') (n : Nat) {v v' : Value} (hv : VR ρ w v v') : VRl ρ w (a.set n v) (a'.set n v') := by
  refine ⟨by simp [h.1], fun i hi => ?_⟩
  simp at hi
  have hk := h.2 i hi
  simp only [List.getD_eq_getElem?_getD, List.getElem?_set] at hk ⊢
  by_cases e : n = i
  · subst e
    simp only [if_true, hi, h.1 ▸ hi]
    simpa using hv
  · simpa only [e, if_false] using hk
theorem VRl.get {ρ : Rho} {w : World} {a a' : List Value} (h : VRl ρ w a a') {i : Nat} {v : Value} (hv : a[i]? = some v) : ∃ v', a'[i]? = some v' ∧ VR ρ w v v' := by
  have hi : i < a.length := by
    rcases Nat.lt_or_ge i a.length with h | h
    · exact h
    · rw [List.getElem?_eq_none h] at hv; cases hv
  have := h.2 i hi
  have hi' : i < a'.length := h.1 ▸ hi
  refine ⟨a'[i], by simp, ?_⟩
  simp only [List.getD_eq_getElem?_getD, hv, Option.getD_some, List.getElem?_eq_getElem hi'] at this
  exact this
theorem VRl.replicate {ρ : Rho} {w : World} {v v' : Value} (h : VR ρ w v v') : ∀ n, VRl ρ w (List.replicate n v) (List.replicate n v')
  | 0 => .nil ρ w
  | n + 1 => .cons h (VRl.replicate h n)
theorem VRl.getD {ρ : Rho} {w : World} {a a' : List Value} (h : VRl ρ w a a') (i : Nat) : VR ρ w (a.getD i undef) (a'.getD i undef) := by
  by_cases hi : i < a.length
  · exact h.2 i hi
  · have hi' : ¬ i < a'.length := h.1 ▸ hi
    simp only [List.getD_eq_getElem?_getD, List.getElem?_eq_none (Nat.le_of_not_lt hi), List.getElem?_eq_none (Nat.le_of_not_lt hi')]
    exact .tup _ _ rfl (fun i hi => absurd hi (by simp))
theorem VR.undef (ρ : Rho) (w : World) : VR ρ w undef undef := .tup _ _ rfl (fun i hi => absurd hi (by simp))
theorem getD_toList (a : Array Value) (i : Nat) : a.getD i undef = a.toList.getD i undef := by
  simp [Array.getD_eq_getD_getElem?, List.getD_eq_getElem?_getD]
theorem VR.aggL {ρ : Rho} {w : World} {a a' : Array Value} (h : VRl ρ w a.toList a'.toList) (h1 : ∀ v ∈ a.toList, cell1 v = true) : VR ρ w (.agg a) (.agg a') := by
  refine .agg a a' (by simpa using h.1) (fun i hi => ?_) (fun i hi => ?_)
  · rw [getD_toList]
    refine h1 _ ?_
    rw [List.getD_eq_getElem?_getD, List.getElem?_eq_getElem (by simpa using hi)]
    simp
  · rw [getD_toList, getD_toList]; exact h.2 i (by simpa using hi)
theorem VR.tupL {ρ : Rho} {w : World} {a a' : Array Value} (h : VRl ρ w a.toList a'.toList) : VR ρ w (.tuple a) (.tuple a') :=
  .tup a a' (by simpa using h.1) (fun i hi => by rw [getD_toList, getD_toList]; exact h.2 i (by simpa using hi))
theorem VR.of_agg {ρ : Rho} {w : World} {a : Array Value} {v : Value} (h : VR ρ w (.agg a) v) : ∃ a', v = .agg a' ∧ VRl ρ w a.toList a'.toList ∧ ∀ x ∈ a.toList, cell1 x = true := by
  cases h with
  | agg _ a' ha h1 hv =>
    refine ⟨a', rfl, ⟨by simpa using ha, fun i hi => ?_⟩, fun x hx => ?_⟩
    · have := hv i (by simpa using hi); rwa [getD_toList, getD_toList] at this
    · obtain ⟨i, hi, rfl⟩ := List.getElem_of_mem hx
      have := h1 i (by simpa using hi)
      rw [getD_toList, List.getD_eq_getElem?_getD, List.getElem?_eq_getElem hi] at this
      simpa using this
theorem VR.of_tuple {ρ : Rho} {w : World} {a : Array Value} {v : Value} (h : VR ρ w (.tuple a) v) : ∃ a', v = .tuple a' ∧ VRl ρ w a.toList a'.toList := by
  cases h with
  | tup _ a' ha hv =>
    refine ⟨a', rfl, ⟨by simpa using ha, fun i hi => ?_⟩⟩
    have := hv i (by simpa using hi); rwa [getD_toList, getD_toList] at this
theorem VR.plain0 {ρ : Rho} {w : World} {v : Value} (h : Hm.plain0 v = true) : VR ρ w v v ∧ cell1 v = true := by
  unfold Hm.plain0 at h
  split at h <;> first | exact ⟨.bool _, rfl⟩ | exact ⟨.int _ _, rfl⟩ | exact ⟨.str _, rfl⟩ | exact ⟨.nilp, rfl⟩ | exact ⟨.nilm, rfl⟩ | exact ⟨.nilf, rfl⟩ | exact ⟨.nili, rfl⟩ | exact ⟨.nils, rfl⟩ | cases h
theorem VRl.plain0 {ρ : Rho} {w : World} : ∀ {l : List Value}, l.all Hm.plain0 = true → VRl ρ w l l ∧ ∀ v ∈ l, cell1 v = true
  | [], _ => ⟨.nil ρ w, fun _ h => absurd h (by simp)⟩
  | v :: l, h => by
    simp only [List.all_cons, Bool.and_eq_true] at h
    obtain ⟨a, b⟩ := VRl.plain0 h.2
    obtain ⟨c, d⟩ := VR.plain0 (ρ := ρ) (w := w) h.1
    exact ⟨.cons c a, fun x hx => by cases hx with | head => exact d | tail _ hx => exact b x hx⟩
theorem VR.plainV {ρ : Rho} {w : World} {v : Value} (h : Hm.plainV v = true) : VR ρ w v v := by
  unfold Hm.plainV at h
  split at h
  · obtain ⟨a, b⟩ := VRl.plain0 (ρ := ρ) (w := w) h; exact .aggL a b
  · obtain ⟨a, b⟩ := VRl.plain0 (ρ := ρ) (w := w) h; exact .tupL a
  · exact (VR.plain0 h).1
theorem VR.cells {ρ : Rho} {w : World} {v v' : Value} {cs : List Value} (h : VR ρ w v v') (e : cellsV v = some cs) : VRl ρ w cs v'.cells.toList ∧ ∀ x ∈ cs, cell1 x = true := by
  unfold cellsV at e
  split at e
  · cases e
    obtain ⟨a', rfl, h1, h2⟩ := h.of_agg
    exact ⟨h1, h2⟩
  · cases e
  · rename_i hna hnt
    cases e
    have hc : v'.cells = #[v'] := by cases h <;> first | rfl | exact absurd rfl (hna _) | exact absurd rfl (hnt _)
    rw [hc]
    refine ⟨.cons h (.nil ρ w), fun x hx => ?_⟩
    simp only [List.mem_singleton] at hx
    subst hx
    cases x <;> first | rfl | exact absurd rfl (hna _) | exact absurd rfl (hnt _)
theorem VR.cell1 {ρ : Rho} {w : World} {v v' : Value} (h : VR ρ w v v') (e : Hm.cell1 v = true) : Hm.cell1 v' = true := by
  cases h <;> first | rfl | cases e
theorem plainV_cells {ρ : Rho} {w : World} {v : Value} (h : Hm.plainV v = true) (h2 : ∀ cs, v ≠ .tuple cs) : VRl ρ w v.cells.toList v.cells.toList ∧ ∀ x ∈ v.cells.toList, Hm.cell1 x = true := by
  have hc : cellsV v = some v.cells.toList := by cases v <;> first | rfl | exact absurd rfl (h2 _)
  exact (VR.plainV h).cells hc
end Go.Proofs.Ytbjgnogcjglcoaa.Hm
