import Derived.Test.YtlidnionbofkaaaA4
import Derived.Test.YtlidnionbofkaaaA7
import Derived.OpenShut
import Derived.ChangeOld
import Derived.Carry
import Derived.Test.YtlidnionbofkaaaChecked
import Derived.WalkKit
import Derived.ProofKit
import Derived.ShutString
import Derived.Below
import Derived.SizedLaws
namespace Go.Proofs.Ytlidnionbofkaaa.Hm
noncomputable section
open Go Go.RowKit
set_option linter.all false
set_option linter.unusedSimpArgs false
def fieldsTile (P : Program) (ts : List TypeId) : List Field → Nat → Nat → Bool
  | [], a, n => a == n
  | f :: fs, a, n => f.offset == a && ts.contains f.type && fieldsTile P ts fs (a + P.cellsOf f.type) n
def tyOK (P : Program) (ts : List TypeId) (t : TypeId) : Bool :=
  match P.underlying t with
  | some .bool | some (.int _) | some .string => true
  | some (.slice e) => ts.contains e && decide (0 < P.cellsOf e)
  | some (.struct fs) => fieldsTile P ts fs.toList 0 (P.cellsOf t)
  | some (.array n e) => ts.contains e && P.cellsOf t == n * P.cellsOf e
  | _ => false
def closedT (P : Program) (ts : List TypeId) : Bool := ts.all (tyOK P ts)
theorem closedT_get {P : Program} {ts : List TypeId} (h : closedT P ts = true) {t : TypeId} (ht : ts.contains t = true) : tyOK P ts t = true :=
  List.all_eq_true.1 h t (by simpa using ht)
inductive TR {D : Type} (P : Program) (h : Heap) : TypeId → List Value → DataW D → Prop
  | bool (t : TypeId) (b : Bool) (hu : P.underlying t = some .bool) : TR P h t [.bool b] (.lit (.bool b))
  | int (t : TypeId) (k : IntKind) (n : Int) (hu : P.underlying t = some (.int k)) (hw : (Lit.int k n).wf = true) : TR P h t [.int k n] (.lit (.int k n))
  | str (t : TypeId) (s : ByteArray) (hu : P.underlying t = some .string) (hs : s.size ≤ maxLen) : TR P h t [.string s] (.lit (.string s.data.toList))
  | nils (t e : TypeId) (hu : P.underlying t = some (.slice e)) : TR P h t [.slice none 0 0] .nil
  | slice (t e : TypeId) (b len cap : Nat) (es rest : List (DataW D)) (cf : Nat → List Value) (df : Nat → DataW D) (hu : P.underlying t = some (.slice e)) (he : 0 < P.cellsOf e) (h1 : es.length = len) (h2 : len + rest.length = cap) (h3 : cap ≤ maxLen) (hb : ∃ cs, h.get b = some (.row cs none))
      (hr : ∀ i, i < cap → h.rd b (i * P.cellsOf e) (P.cellsOf e) = some (cf i)) (ht : ∀ i, i < cap → TR P h e (cf i) (df i)) (hd : ∀ i, i < cap → (es ++ rest)[i]? = some (df i)) : TR P h t [.slice (some ⟨b, 0, none⟩) len cap] (.slice es rest)
  | struct (t : TypeId) (fs : Array Field) (cs : List Value) (ds : List (DataW D)) (df : Nat → DataW D) (hu : P.underlying t = some (.struct fs)) (hl : cs.length = P.cellsOf t) (hn : ds.length = fs.size)
      (hf : ∀ (i : Nat) (f : Field), fs[i]? = some f → TR P h f.type ((cs.drop f.offset).take (P.cellsOf f.type)) (df i)) (hd : ∀ i, i < fs.size → ds[i]? = some (df i)) : TR P h t cs (.agg ds)
  | array (t e : TypeId) (n : Nat) (cs : List Value) (ds : List (DataW D)) (df : Nat → DataW D) (hu : P.underlying t = some (.array n e)) (hl : cs.length = n * P.cellsOf e) (hn : ds.length = n)
      (hf : ∀ i, i < n → TR P h e ((cs.drop (i * P.cellsOf e)).take (P.cellsOf e)) (df i)) (hd : ∀ i, i < n → ds[i]? = some (df i)) : TR P h t cs (.agg ds)
theorem TR.le {D : Type} {P : Program} {h h' : Heap} (hh : h.le h') {t : TypeId} {cs : List Value} {d : DataW D} (k : TR P h t cs d) : TR P h' t cs d := by
  induction k with
  | bool t b hu => exact .bool t b hu
  | int t k n hu hw => exact .int t k n hu hw
  | str t s hu hs => exact .str t s hu hs
  | nils t e hu => exact .nils t e hu
  | slice t e b len cap es rest cf df hu he h1 h2 h3 hb hr ht hd ih => exact .slice t e b len cap es rest cf df hu he h1 h2 h3 (let ⟨cs, h4⟩ := hb; ⟨cs, (hh.get b (get_lt h4)).trans h4⟩) (fun i hi => hh.rd (hr i hi)) ih hd
  | struct t fs cs ds df hu hl hn hf hd ih => exact .struct t fs cs ds df hu hl hn ih hd
  | array t e n cs ds df hu hl hn hf hd ih => exact .array t e n cs ds df hu hl hn ih hd
structure Laid (ρ : Rho) (h : Heap) (w : World) : Prop where
  plain : ∀ b x, h.get b = some x → ∃ cs, x = .row cs none
  m0 : h.m = 0
  dom : ∀ b r s, ρ b = some (r, s) → b < h.n ∧ r < w.heap.size
  row : ∀ b r s cs, ρ b = some (r, s) → h.cells b = some cs → ∃ c e fz, w.heap[r]? = some (.cells c e fz) ∧ s + cs.length ≤ c.size ∧
    ∀ i, i < cs.length → VR ρ w (cs.getD i undef) (c.getD (s + i) undef) ∧ cell1 (cs.getD i undef) = true
theorem Laid.empty (w : World) : Laid (fun _ => none) heap0 w :=
  ⟨fun b x e => (by rw [get0] at e; cases e), rfl, fun b r s e => (by cases e), fun b r s cs e => (by cases e)⟩
theorem Laid.inv {ρ : Rho} {h : Heap} {w : World} (k : Laid ρ h w) : Inv h.n w.heap.size w ρ h w where
  below := Below.refl _ _
  n0le := Nat.le_refl _
  lon := Nat.le_refl _
  dom := k.dom
  new := fun b r s e hl => by have := (k.dom b r s e).1; omega
  row := fun b r s cs e hc => by
    obtain ⟨c, el, fz, h1, h2, h3⟩ := k.row b r s cs e hc
    exact ⟨c, el, fz, h1, fun hl => by have := (k.dom b r s e).1; omega, h2, h3⟩
  map := fun b r s es t e hg => by obtain ⟨cs, hx⟩ := k.plain b _ hg; cases hx
  sep := fun b b' r s s' e e' hne hlo => by have := (k.dom b r s e).1; have := (k.dom b' r s' e').1; omega
  tip := fun b b' c cs cs' fl r s s' hg => by obtain ⟨cs, hx⟩ := k.plain b _ hg; cases hx
  clt := fun b cs c t fl hg => by obtain ⟨cs, hx⟩ := k.plain b _ hg; cases hx
  clm := fun b cs c hg => by obtain ⟨cs, hx⟩ := k.plain b _ hg; cases hx
  itr := fun b r s m t seen d e hg => by obtain ⟨cs, hx⟩ := k.plain b _ hg; cases hx
  its := fun b b' r s s' e e' i => by obtain ⟨_, _, _, _, hg⟩ := i; obtain ⟨cs, hx⟩ := k.plain b _ hg; cases hx
theorem Laid.push {ρ : Rho} {h : Heap} {w : World} (k : Laid ρ h w) (cs : List Value) : Laid ρ (h.new cs) w := by
  have hg : ∀ b, b < h.n → (h.new cs).get b = h.get b := fun b hb => Hm.get_new h cs hb
  refine ⟨fun b x e => ?_, k.m0, fun b r s e => ⟨Nat.lt_succ_of_lt (k.dom b r s e).1, (k.dom b r s e).2⟩, fun b r s cs' e hc => ?_⟩
  · rw [Heap.get_new] at e
    split at e
    · cases e; exact ⟨_, rfl⟩
    · exact k.plain b x e
  · refine k.row b r s cs' e ?_
    rw [← hc]
    exact (Heap.cells_congr (hg b (k.dom b r s e).1) fun _ _ _ => rfl).symm
theorem Laid.tell {ρ : Rho} {h : Heap} {w : World} (k : Laid ρ h w) (cs : List Value) {r s : Nat} {c : Array Value} {e : TypeId} {fz : Nat × Nat} (hr : w.heap[r]? = some (.cells c e fz)) (hs : s + cs.length ≤ c.size)
    (hv : ∀ i, i < cs.length → VR ρ w (cs.getD i undef) (c.getD (s + i) undef) ∧ cell1 (cs.getD i undef) = true) : Laid (Rho.set ρ h.n r s) (h.new cs) w ∧ ∀ b x, ρ b = some x → Rho.set ρ h.n r s b = some x := by
  have hle : ∀ b x, ρ b = some x → Rho.set ρ h.n r s b = some x := fun b x e => by
    have := (k.dom b x.1 x.2 e).1
    unfold Rho.set; rw [if_neg (by omega)]; exact e
  have k2 := k.push cs
  have hmono : ∀ {v v' : Value}, VR ρ w v v' → VR (Rho.set ρ h.n r s) w v v' := fun q => q.mono hle (fun _ => Nat.le_refl _)
  refine ⟨⟨k2.plain, k2.m0, fun b r' s' e => ?_, fun b r' s' cs' e hc => ?_⟩, hle⟩
  · unfold Rho.set at e
    split at e
    · rename_i eb; cases e; subst eb
      refine ⟨Nat.lt_succ_self _, ?_⟩
      rcases Nat.lt_or_ge r w.heap.size with h | h
      · exact h
      · rw [Array.getElem?_eq_none h] at hr; cases hr
    · exact k2.dom b r' s' e
  · unfold Rho.set at e
    split at e
    · rename_i eb; cases e; subst eb
      rw [cells_top] at hc
      cases hc
      exact ⟨c, _, fz, hr, hs, fun i hi => ⟨hmono (hv i hi).1, (hv i hi).2⟩⟩
    · obtain ⟨c', e', fz', h1, h2, h3⟩ := k2.row b r' s' cs' e hc
      exact ⟨c', e', fz', h1, h2, fun i hi => ⟨hmono (h3 i hi).1, (h3 i hi).2⟩⟩
def flatK (f : Nat → List Value) (k m : Nat) : List Value := (List.range' k m).flatMap f
theorem flatK_zero (f : Nat → List Value) (k : Nat) : flatK f k 0 = [] := rfl
theorem flatK_succ (f : Nat → List Value) (k m : Nat) : flatK f k (m + 1) = f k ++ flatK f (k + 1) m := by simp [flatK, List.range'_succ]
theorem flatK_len {f : Nat → List Value} {z : Nat} : ∀ {m k : Nat}, (∀ i, i < m → (f (k + i)).length = z) → (flatK f k m).length = m * z
  | 0, k, _ => by simp [flatK]
  | m + 1, k, h => by
    have h0 := h 0 (by omega)
    rw [flatK_succ, List.length_append, flatK_len (f := f) (z := z) (m := m) (k := k + 1) fun i hi => by have := h (i + 1) (by omega); rwa [Nat.add_assoc, Nat.add_comm 1 i]]
    rw [Nat.add_zero] at h0
    rw [h0, Nat.succ_mul]; omega
theorem flatK_part {f : Nat → List Value} {z : Nat} : ∀ {m k : Nat}, (∀ i, i < m → (f (k + i)).length = z) → ∀ i, i < m → ((flatK f k m).drop (i * z)).take z = f (k + i)
  | m + 1, k, h, 0, _ => by
    have h0 := h 0 (by omega)
    rw [Nat.add_zero] at h0 ⊢
    rw [flatK_succ]; simp [List.take_append_of_le_length (Nat.le_of_eq h0.symm), List.take_of_length_le (Nat.le_of_eq h0)]
  | m + 1, k, h, i + 1, hi => by
    have h0 := h 0 (by omega)
    rw [Nat.add_zero] at h0
    have ih := flatK_part (f := f) (z := z) (m := m) (k := k + 1) (fun i hi => by have := h (i + 1) (by omega); rwa [Nat.add_assoc, Nat.add_comm 1 i]) i (by omega)
    have e : (i + 1) * z - z = i * z := by rw [Nat.succ_mul]; omega
    rw [flatK_succ, List.drop_append, List.drop_of_length_le (by rw [h0, Nat.succ_mul]; omega), List.nil_append, h0, e, ih, Nat.add_assoc, Nat.add_comm 1 i]
theorem flatK_vrl {ρ : Rho} {w : World} {f g : Nat → List Value} : ∀ {m k : Nat}, (∀ i, i < m → VRl ρ w (f (k + i)) (g (k + i))) → VRl ρ w (flatK f k m) (flatK g k m)
  | 0, k, _ => .nil _ _
  | m + 1, k, h => by
    rw [flatK_succ, flatK_succ]
    refine (by simpa using h 0 (by omega) : VRl ρ w (f k) (g k)).append (flatK_vrl fun i hi => ?_)
    have := h (i + 1) (by omega)
    rwa [Nat.add_assoc, Nat.add_comm 1 i]
theorem flatK_cell1 {f : Nat → List Value} {m k : Nat} (h : ∀ i, i < m → ∀ v ∈ f (k + i), cell1 v = true) : ∀ v ∈ flatK f k m, cell1 v = true := by
  intro v hv
  obtain ⟨j, hj, hv⟩ := List.mem_flatMap.1 hv
  obtain ⟨i, hi, rfl⟩ := List.mem_range'.1 hj
  rw [Nat.one_mul] at hv
  exact h i hi v hv
theorem flatK_cut {cs : List Value} {z : Nat} : ∀ {m k : Nat}, cs.length = (k + m) * z → flatK (fun i => (cs.drop (i * z)).take z) k m = cs.drop (k * z)
  | 0, k, h => by rw [flatK_zero, List.drop_of_length_le (by rw [h]; simp)]
  | m + 1, k, h => by
    rw [flatK_succ, flatK_cut (m := m) (k := k + 1) (by rw [h]; congr 1; omega)]
    have : (k + 1) * z = k * z + z := Nat.succ_mul k z
    rw [this, ← List.drop_drop, List.take_append_drop]
theorem tile {P : Program} {ts : List TypeId} {cs : List Value} {hf : Nat → List Value} {ρ : Rho} {w : World} : ∀ {fs : List Field} {a k : Nat}, fieldsTile P ts fs a cs.length = true →
    (∀ (i : Nat) (f : Field), fs[i]? = some f → (hf (k + i)).length = P.cellsOf f.type ∧ VRl ρ w (hf (k + i)) ((cs.drop f.offset).take (P.cellsOf f.type))) →
    a ≤ cs.length ∧ VRl ρ w (flatK hf k fs.length) (cs.drop a) ∧ ∀ (i : Nat) (f : Field), fs[i]? = some f → a ≤ f.offset ∧ ((flatK hf k fs.length).drop (f.offset - a)).take (P.cellsOf f.type) = hf (k + i)
  | [], a, k, h, _ => by
    have : a = cs.length := by simpa [fieldsTile] using h
    subst this
    exact ⟨Nat.le_refl _, by simpa [flatK_zero] using VRl.nil ρ w, fun i f e => by simp at e⟩
  | f0 :: fs, a, k, h, hp => by
    simp only [fieldsTile, Bool.and_eq_true] at h
    obtain ⟨⟨h1, _⟩, h2⟩ := h
    have h1 : f0.offset = a := by simpa using h1
    obtain ⟨p1, p2⟩ := hp 0 f0 rfl
    obtain ⟨q1, q2, q3⟩ := tile (fs := fs) (a := a + P.cellsOf f0.type) (k := k + 1) h2 fun i f e => by
      have := hp (i + 1) f (by simpa using e)
      rwa [Nat.add_assoc, Nat.add_comm 1 i]
    rw [Nat.add_zero] at p1 p2
    refine ⟨by omega, ?_, fun i f e => ?_⟩
    · rw [List.length_cons, flatK_succ, ← List.take_append_drop (P.cellsOf f0.type) (cs.drop a), List.drop_drop]
      rw [h1] at p2
      exact p2.append q2
    · rw [List.length_cons, flatK_succ]
      cases i with
      | zero =>
        simp only [List.getElem?_cons_zero, Option.some.injEq] at e
        subst e
        refine ⟨by omega, ?_⟩
        rw [h1, Nat.sub_self, List.drop_zero, List.take_append_of_le_length (Nat.le_of_eq p1.symm), List.take_of_length_le (Nat.le_of_eq p1), Nat.add_zero]
      | succ i =>
        obtain ⟨r1, r2⟩ := q3 i f (by simpa using e)
        refine ⟨by omega, ?_⟩
        rw [List.drop_append, List.drop_of_length_le (by omega), List.nil_append, p1, Nat.sub_sub, r2, Nat.add_assoc, Nat.add_comm 1 i]
theorem fieldsTile_le {P : Program} {ts : List TypeId} : ∀ {fs : List Field} {a n : Nat}, fieldsTile P ts fs a n = true → a ≤ n
  | [], a, n, h => by simp [fieldsTile] at h; omega
  | f0 :: fs, a, n, h => by
    simp only [fieldsTile, Bool.and_eq_true] at h
    have := fieldsTile_le h.2
    omega
theorem fieldsTile_mem {P : Program} {ts : List TypeId} : ∀ {fs : List Field} {a n : Nat}, fieldsTile P ts fs a n = true → ∀ (i : Nat) (f : Field), fs[i]? = some f → ts.contains f.type = true
  | f0 :: fs, a, n, h, i, f, e => by
    simp only [fieldsTile, Bool.and_eq_true] at h
    cases i with
    | zero => simp only [List.getElem?_cons_zero, Option.some.injEq] at e; subst e; exact h.1.2
    | succ i => exact fieldsTile_mem h.2 i f (by simpa using e)
theorem tile_le {P : Program} {ts : List TypeId} : ∀ {fs : List Field} {a n : Nat}, fieldsTile P ts fs a n = true → ∀ (i : Nat) (f : Field), fs[i]? = some f → f.offset + P.cellsOf f.type ≤ n
  | f0 :: fs, a, n, h, i, f, e => by
    have hm := fieldsTile_le h
    simp only [fieldsTile, Bool.and_eq_true] at h
    cases i with
    | zero =>
      simp only [List.getElem?_cons_zero, Option.some.injEq] at e; subst e
      have h1 : f0.offset = a := by simpa using h.1.1
      have := fieldsTile_le h.2
      omega
    | succ i => exact tile_le h.2 i f (by simpa using e)
section
variable {D : Type} {enc : TypeId × Value → D} {P : Program} {w : World} {ts : List TypeId}
def LayOut (P : Program) (w : World) (ρ : Rho) (h : Heap) (t : TypeId) (cs : List Value) (d : DataW D) : Prop :=
  ∃ (ρ' : Rho) (h' : Heap) (hcs : List Value), Laid ρ' h' w ∧ h.le h' ∧ (∀ b x, ρ b = some x → ρ' b = some x) ∧ VRl ρ' w hcs cs ∧ (∀ v ∈ hcs, cell1 v = true) ∧ TR P h' t hcs d
abbrev tr0 (enc : TypeId × Value → D) (P : Program) (w : World) := DataW.trod enc P w 0 (fun _ => true) true
theorem lay_parts {n : Nat} (ih : ∀ t cs x, tr0 enc P w n t cs = some x → ts.contains t = true → ∀ ρ h, Laid ρ h w → LayOut P w ρ h t cs x.1) (ty : Nat → TypeId) (part : Nat → List Value) (df : Nat → DataW D) :
    ∀ m, (∀ i, i < m → ts.contains (ty i) = true ∧ ∃ x, tr0 enc P w n (ty i) (part i) = some x ∧ x.1 = df i) → ∀ ρ h, Laid ρ h w →
      ∃ (ρ' : Rho) (h' : Heap) (hcf : Nat → List Value), Laid ρ' h' w ∧ h.le h' ∧ (∀ b x, ρ b = some x → ρ' b = some x) ∧ ∀ i, i < m → VRl ρ' w (hcf i) (part i) ∧ (∀ v ∈ hcf i, cell1 v = true) ∧ TR P h' (ty i) (hcf i) (df i) := by
  intro m
  induction m with
  | zero => exact fun _ ρ h hl => ⟨ρ, h, fun _ => [], hl, .refl _, fun _ _ e => e, fun i hi => by omega⟩
  | succ m ihm =>
    intro hp ρ h hl
    obtain ⟨ρ1, h1, f1, k1, k2, k3, k4⟩ := ihm (fun i hi => hp i (by omega)) ρ h hl
    obtain ⟨hc, x, hx, hd⟩ := hp m (by omega)
    obtain ⟨ρ2, h2, hcs, q1, q2, q3, q4, q5, q6⟩ := ih _ _ _ hx hc ρ1 h1 k1
    refine ⟨ρ2, h2, fun i => if i = m then hcs else f1 i, q1, k2.trans q2, fun b x e => q3 _ _ (k3 _ _ e), fun i hi => ?_⟩
    by_cases e : i = m
    · subst e
      simp only [if_true]
      exact ⟨q4, q5, hd ▸ q6⟩
    · simp only [if_neg e]
      obtain ⟨a, b, c⟩ := k4 i (by omega)
      exact ⟨a.mono q3 (fun _ => Nat.le_refl _), b, c.le q2⟩
theorem lay (hts : closedT P ts = true) : ∀ n t cs x, tr0 enc P w n t cs = some x → ts.contains t = true → ∀ ρ h, Laid ρ h w → LayOut P w ρ h t cs x.1 := by
  intro n
  induction n with
  | zero => intro t cs x hx; simp [DataW.trod] at hx
  | succ n ih =>
    intro t cs x hx ht ρ h hl
    have hty := closedT_get hts ht
    unfold tyOK at hty
    split at hty
    · rename_i hu
      obtain ⟨b, rfl, rfl⟩ := DataW.trod_bool hu hx
      exact ⟨ρ, h, [.bool b], hl, .refl _, fun _ _ e => e, .cons (.bool b) (.nil _ _), by simp [cell1], .bool t b hu⟩
    · rename_i k hu
      obtain ⟨i, rfl, rfl, hw⟩ := DataW.trod_int hu hx
      exact ⟨ρ, h, [.int k i], hl, .refl _, fun _ _ e => e, .cons (.int k i) (.nil _ _), by simp [cell1], .int t k i hu hw⟩
    · rename_i hu
      obtain ⟨s, rfl, rfl, hs⟩ := DataW.trod_string hu hx
      exact ⟨ρ, h, [.string s], hl, .refl _, fun _ _ e => e, .cons (.str s) (.nil _ _), by simp [cell1], .str t s hu hs⟩
    · rename_i e hu
      simp only [Bool.and_eq_true, decide_eq_true_eq] at hty
      obtain ⟨hte, hz⟩ := hty
      rcases DataW.trod_slice hu hx with ⟨rfl, rfl⟩ | ⟨a, len, cap, elems, rest, n', hn', rfl, rfl, _, hlc, hcm, hel, hE, hR, _⟩
      · exact ⟨ρ, h, [.slice none 0 0], hl, .refl _, fun _ _ e => e, .cons .nils (.nil _ _), by simp [cell1], .nils t e hu⟩
      · have hn' : n = n' := by omega
        subst hn'
        obtain ⟨hrl, hR⟩ := hR rfl
        have hall : ∀ i, i < cap → ∃ y, (elems ++ rest)[i]? = some y ∧ (w.cells? 0 (a.add (i * P.cellsOf e)) (P.cellsOf e)).bind (tr0 enc P w n e) = some y := by
          intro i hi
          by_cases hil : i < len
          · have := hE i hil
            rw [List.getElem?_append_left (by omega)]
            exact ⟨elems[i]'(by omega), by rw [List.getElem?_eq_getElem (by omega)], by rw [this, List.getElem?_eq_getElem (by omega)]⟩
          · have := hR (i - len) (by omega)
            have e1 : len + (i - len) = i := by omega
            rw [e1] at this
            rw [List.getElem?_append_right (by omega), hel]
            exact ⟨rest[i - len]'(by omega), by rw [List.getElem?_eq_getElem (by omega)], by rw [this, List.getElem?_eq_getElem (by omega)]⟩
        let part : Nat → List Value := fun i => (w.cells? 0 (a.add (i * P.cellsOf e)) (P.cellsOf e)).getD []
        have hpart : ∀ i, i < cap → ∃ y, (elems ++ rest)[i]? = some y ∧ w.cells? 0 (a.add (i * P.cellsOf e)) (P.cellsOf e) = some (part i) ∧ tr0 enc P w n e (part i) = some y := by
          intro i hi
          obtain ⟨y, h1, h2⟩ := hall i hi
          obtain ⟨c, hc, hy⟩ := Option.bind_eq_some_iff.1 h2
          have : part i = c := by simp [part, hc]
          exact ⟨y, h1, by rw [this, hc], by rw [this, hy]⟩
        let df : Nat → DataW D := fun i => (((elems ++ rest)[i]?).map (·.1)).getD .nil
        have hdf : ∀ i y, (elems ++ rest)[i]? = some y → df i = y.1 := fun i y hy => by simp [df, hy]
        by_cases hc0 : cap = 0
        · subst hc0
          have hl0 : len = 0 := by omega
          subst hl0
          have e1 : elems = [] := List.length_eq_zero_iff.1 hel
          have e2 : rest = [] := List.length_eq_zero_iff.1 hrl
          subst e1; subst e2
          refine ⟨ρ, h.new [], [.slice (some ⟨h.n, 0, none⟩) 0 0], hl.push [], (Heap.le.refl h).new [], fun _ _ e => e, .cons (.sez _ _ _) (.nil _ _), by simp [cell1], ?_⟩
          exact .slice t e h.n 0 0 [] [] (fun _ => []) (fun _ => .nil) hu hz rfl rfl (Nat.zero_le _) ⟨_, get_top h []⟩ (fun i hi => by omega) (fun i hi => by omega) (fun i hi => by omega)
        · obtain ⟨ρ1, h1, hcf, k1, k2, k3, k4⟩ := lay_parts ih (fun _ => e) part df cap (fun i hi => by
            obtain ⟨y, y1, y2, y3⟩ := hpart i hi
            exact ⟨hte, y, y3, (hdf i y y1).symm⟩) ρ h hl
          have hcells : ∀ i, i < cap → (part i).length = P.cellsOf e ∧ ∀ j, j < P.cellsOf e → w.cell? ((a.add (i * P.cellsOf e)).add j) = (part i)[j]? := fun i hi => by
            obtain ⟨y, y1, y2, y3⟩ := hpart i hi
            exact ⟨(World.cells?_some y2).2.1, (World.cells?_some y2).2.2⟩
          obtain ⟨c0, ht0, fz0, hw0, hsp⟩ : ∃ c e' fz, w.heap[a.block]? = some (.cells c e' fz) ∧ a.spot = none := by
            have h0 := (hcells 0 (by omega)).2 0 hz
            have hl0 := (hcells 0 (by omega)).1
            rw [List.getElem?_eq_getElem (by omega)] at h0
            simp only [Nat.zero_mul, Addr.add, if_true] at h0
            unfold World.cell? at h0
            split at h0
            · rename_i c e' fz hb
              refine ⟨c, e', fz, hb, ?_⟩
              split at h0
              · cases h0
              · rename_i hs; simpa using hs
            · cases h0
          obtain ⟨blk, off, spot⟩ := a
          simp only at hsp hw0
          subst hsp
          have hread : ∀ i, i < cap → ∀ j, j < P.cellsOf e → c0[off + (i * P.cellsOf e + j)]? = (part i)[j]? := by
            intro i hi j hj
            have := (hcells i hi).2 j hj
            rw [WideShapes.add_plain, WideShapes.add_plain] at this
            unfold World.cell? at this
            simp only [hw0, Option.isSome_none, Bool.false_eq_true, if_false] at this
            rw [← this, Nat.add_assoc]
          have hlen : ∀ i, i < cap → (hcf (0 + i)).length = P.cellsOf e := fun i hi => by
            rw [Nat.zero_add]; exact (k4 i hi).1.1.trans (hcells i hi).1
          have hrow : (flatK hcf 0 cap).length = cap * P.cellsOf e := flatK_len hlen
          have hvrow : VRl ρ1 w (flatK hcf 0 cap) (flatK part 0 cap) := flatK_vrl fun i hi => by rw [Nat.zero_add]; exact (k4 i hi).1
          have hplen : ∀ i, i < cap → (part (0 + i)).length = P.cellsOf e := fun i hi => by rw [Nat.zero_add]; exact (hcells i hi).1
          have hget : ∀ j, j < cap * P.cellsOf e → c0[off + j]? = (flatK part 0 cap)[j]? := by
            intro j hj
            have hi : j / P.cellsOf e < cap := (Nat.div_lt_iff_lt_mul hz).2 hj
            have hjm := Nat.div_add_mod j (P.cellsOf e)
            have hmod := Nat.mod_lt j hz
            have e1 := hread _ hi _ hmod
            rw [Nat.mul_comm, hjm] at e1
            rw [e1]
            have e2 := flatK_part hplen _ hi
            rw [Nat.zero_add] at e2
            rw [← e2, List.getElem?_take, if_pos hmod, List.getElem?_drop, Nat.mul_comm, hjm]
          have hsz : off + cap * P.cellsOf e ≤ c0.size := by
            have hpos : 0 < cap * P.cellsOf e := Nat.mul_pos (by omega) hz
            have := hget (cap * P.cellsOf e - 1) (by omega)
            rw [List.getElem?_eq_getElem (by rw [flatK_len hplen]; omega)] at this
            obtain ⟨hlt, _⟩ := Array.getElem?_eq_some_iff.1 this
            omega
          obtain ⟨q1, q2⟩ := k1.tell (flatK hcf 0 cap) hw0 (s := off) (by rw [hrow]; exact hsz) (fun j hj => by
            have hj' : j < cap * P.cellsOf e := by rw [← hrow]; exact hj
            refine ⟨?_, ?_⟩
            · have := hvrow.2 j hj
              rw [List.getD_eq_getElem?_getD, List.getD_eq_getElem?_getD, ← hget j hj', ← List.getD_eq_getElem?_getD] at this
              rwa [Array.getD_eq_getD_getElem?]
            · refine flatK_cell1 (f := hcf) (m := cap) (k := 0) (fun i hi => by rw [Nat.zero_add]; exact (k4 i hi).2.1) _ ?_
              rw [List.getD_eq_getElem?_getD, List.getElem?_eq_getElem hj]
              exact List.getElem_mem hj)
          refine ⟨_, h1.new (flatK hcf 0 cap), [.slice (some ⟨h1.n, 0, none⟩) len cap], q1, k2.trans ((Heap.le.refl h1).new _), fun b x e => q2 _ _ (k3 _ _ e), .cons ?_ (.nil _ _), by simp [cell1], ?_⟩
          · have := VR.sle (ρ := Rho.set ρ1 h1.n blk off) (w := w) h1.n blk off 0 len cap (by unfold Rho.set; rw [if_pos rfl])
            simpa using this
          · refine .slice t e h1.n len cap (elems.map (·.1)) (rest.map (·.1)) hcf df hu hz (by simpa using hel) (by simp [hrl]; omega) hcm ⟨_, get_top h1 _⟩ (fun i hi => ?_) (fun i hi => (k4 i hi).2.2.le ((Heap.le.refl h1).new _)) (fun i hi => ?_)
            · have : i * P.cellsOf e + P.cellsOf e ≤ cap * P.cellsOf e := by rw [← Nat.succ_mul]; exact Nat.mul_le_mul_right _ hi
              rw [rd_top (Nat.ble_eq_true_of_le (by rw [hrow]; exact this)), flatK_part hlen i hi, Nat.zero_add]
            · obtain ⟨y, y1, y2, y3⟩ := hpart i hi
              rw [← List.map_append, List.getElem?_map, y1, hdf i y y1]; rfl
    · rename_i fs hu
      obtain ⟨xs, n', hn', rfl, hlen, hxl, hfx⟩ := DataW.trod_struct hu hx
      have hn' : n = n' := by omega
      subst hn'
      let part : Nat → List Value := fun i => match fs[i]? with | some f => (cs.drop f.offset).take (P.cellsOf f.type) | none => []
      let ty : Nat → TypeId := fun i => match fs[i]? with | some f => f.type | none => 0
      let df : Nat → DataW D := fun i => ((xs[i]?).map (·.1)).getD .nil
      have hfg : ∀ i, i < fs.size → ∃ f, fs[i]? = some f := fun i hi => ⟨fs[i], by simp [hi]⟩
      rw [← hlen] at hty
      obtain ⟨ρ1, h1, hcf, k1, k2, k3, k4⟩ := lay_parts ih ty part df fs.size (fun i hi => by
        obtain ⟨f, hf⟩ := hfg i hi
        have e1 := hfx i f hf
        rw [List.getElem?_eq_getElem (by omega)] at e1
        refine ⟨?_, xs[i]'(by omega), ?_, ?_⟩
        · simp only [ty, hf]; exact fieldsTile_mem hty i f (by simpa using hf)
        · simp only [ty, part, hf]; exact e1
        · simp [df, List.getElem?_eq_getElem (show i < xs.length by omega)]) ρ h hl
      have hparts : ∀ (i : Nat) (f : Field), fs.toList[i]? = some f → (hcf (0 + i)).length = P.cellsOf f.type ∧ VRl ρ1 w (hcf (0 + i)) ((cs.drop f.offset).take (P.cellsOf f.type)) := by
        intro i f hf
        have hi : i < fs.size := by
          rcases Nat.lt_or_ge i fs.toList.length with h | h
          · simpa using h
          · rw [List.getElem?_eq_none h] at hf; cases hf
        have hf' : fs[i]? = some f := by simpa using hf
        have q := (k4 i hi).1
        simp only [part, hf'] at q
        rw [Nat.zero_add]
        refine ⟨q.1.trans ?_, q⟩
        have := DataW.trod_struct hu hx
        have hb : f.offset + P.cellsOf f.type ≤ cs.length := tile_le hty i f hf
        rw [List.length_take, List.length_drop]; omega
      obtain ⟨t1, t2, t3⟩ := tile (ρ := ρ1) (w := w) (hf := hcf) (k := 0) hty hparts
      rw [List.drop_zero] at t2
      refine ⟨ρ1, h1, flatK hcf 0 fs.toList.length, k1, k2, k3, t2, ?_, ?_⟩
      · exact flatK_cell1 fun i hi => by rw [Nat.zero_add]; exact (k4 i (by simpa using hi)).2.1
      · refine .struct t fs _ _ df hu (t2.1.trans hlen) (by simpa using hxl) (fun i f hf => ?_) (fun i hi => ?_)
        · have := (t3 i f (by simpa using hf)).2
          rw [Nat.sub_zero, Nat.zero_add] at this
          rw [this]
          have hi : i < fs.size := by
            rcases Nat.lt_or_ge i fs.size with h | h
            · exact h
            · rw [Array.getElem?_eq_none h] at hf; cases hf
          have q := (k4 i hi).2.2
          simp only [ty, hf] at q
          exact q
        · simp [df, List.getElem?_eq_getElem (show i < xs.length by omega)]
    · rename_i m e hu
      simp only [Bool.and_eq_true, beq_iff_eq] at hty
      obtain ⟨hte, hz⟩ := hty
      obtain ⟨xs, n', hn', rfl, hlen, hxl, hfx⟩ := DataW.trod_array hu hx
      have hn' : n = n' := by omega
      subst hn'
      let df : Nat → DataW D := fun i => ((xs[i]?).map (·.1)).getD .nil
      let part : Nat → List Value := fun i => (cs.drop (i * P.cellsOf e)).take (P.cellsOf e)
      obtain ⟨ρ1, h1, hcf, k1, k2, k3, k4⟩ := lay_parts ih (fun _ => e) part df m (fun i hi => by
        have e1 := hfx i hi
        rw [List.getElem?_eq_getElem (by omega)] at e1
        exact ⟨hte, xs[i]'(by omega), e1, by simp [df, List.getElem?_eq_getElem (show i < xs.length by omega)]⟩) ρ h hl
      have hcl : cs.length = m * P.cellsOf e := by rw [hlen, hz]
      have hpl : ∀ i, i < m → (hcf (0 + i)).length = P.cellsOf e := fun i hi => by
        rw [Nat.zero_add]
        refine (k4 i hi).1.1.trans ?_
        have : i * P.cellsOf e + P.cellsOf e ≤ m * P.cellsOf e := by rw [← Nat.succ_mul]; exact Nat.mul_le_mul_right _ hi
        simp only [part, List.length_take, List.length_drop]; omega
      have hv : VRl ρ1 w (flatK hcf 0 m) (flatK part 0 m) := flatK_vrl fun i hi => by rw [Nat.zero_add]; exact (k4 i hi).1
      rw [flatK_cut (by rw [hcl, Nat.zero_add]), Nat.zero_mul, List.drop_zero] at hv
      refine ⟨ρ1, h1, flatK hcf 0 m, k1, k2, k3, hv, flatK_cell1 fun i hi => by rw [Nat.zero_add]; exact (k4 i hi).2.1, ?_⟩
      refine .array t e m _ _ df hu (flatK_len hpl) (by simpa using hxl) (fun i hi => ?_) (fun i hi => by simp [df, List.getElem?_eq_getElem (show i < xs.length by omega)])
      rw [flatK_part hpl i hi, Nat.zero_add]; exact (k4 i hi).2.2
    · cases hty
end
end
end Go.Proofs.Ytlidnionbofkaaa.Hm
namespace Go.Proofs.Ytlidnionbofkaaa.Hm
noncomputable section
open Go Go.RowKit Go.ChangeShapes Go.WideShapes
set_option linter.all false
set_option linter.unusedSimpArgs false
def isAgg (P : Program) (t : TypeId) : Bool := match P.underlying t with
  | some (.struct _) | some (.array _ _) => true
  | _ => false
inductive TA {D : Type} (P : Program) (h : Heap) : TypeId → Value → DataW D → Prop
  | one (t : TypeId) (v : Value) (d : DataW D) (ha : isAgg P t = false) (k : TR P h t [v] d) : TA P h t v d
  | agg (t : TypeId) (cs : List Value) (d : DataW D) (ha : isAgg P t = true) (k : TR P h t cs d) : TA P h t (.agg ⟨cs⟩) d
theorem TA.le {D : Type} {P : Program} {h h' : Heap} (hh : h.le h') {t : TypeId} {v : Value} {d : DataW D} (k : TA P h t v d) : TA P h' t v d := by
  induction k with
  | one v d ha q => exact .one _ _ _ ha (q.le hh)
  | agg cs d ha q => exact .agg _ _ _ ha (q.le hh)
def TAs {D : Type} (P : Program) (h : Heap) : List TypeId → List Value → List (DataW D) → Prop
  | [], [], [] => True
  | t :: ts, v :: vs, d :: ds => TA P h t v d ∧ TAs P h ts vs ds
  | _, _, _ => False
theorem ok_cells {P : Program} {ts : List TypeId} {t : TypeId} {W : World} {base : Nat} {v : Value} (ht : tyOK P ts t = true) (hv : Value.okWide P W .any base t v) :
    (isAgg P t = false ∧ v.cells.toList = [v]) ∨ (isAgg P t = true ∧ ∃ cs, v = .agg cs) := by
  unfold tyOK at ht
  unfold isAgg
  unfold Value.okWide at hv
  split at ht
  · rename_i hu
    left
    simp only [hu] at hv ⊢
    refine ⟨by trivial, ?_⟩
    cases v <;> first | rfl | (simp [Cell.okWide, Cell.ok, hu] at hv)
  · rename_i k hu
    left
    simp only [hu] at hv ⊢
    refine ⟨by trivial, ?_⟩
    cases v <;> first | rfl | (simp [Cell.okWide, Cell.ok, hu] at hv)
  · rename_i hu
    left
    simp only [hu] at hv ⊢
    refine ⟨by trivial, ?_⟩
    cases v <;> first | rfl | (simp [Cell.okWide, Cell.ok, hu] at hv)
  · rename_i e hu
    left
    simp only [hu] at hv ⊢
    refine ⟨by trivial, ?_⟩
    cases v <;> first | rfl | (simp [Cell.okWide, Cell.ok, hu] at hv)
  · rename_i fs hu
    right
    simp only [hu] at hv ⊢
    obtain ⟨cs, rfl, _⟩ := hv
    exact ⟨by simp, cs, rfl⟩
  · rename_i n e hu
    right
    simp only [hu] at hv ⊢
    obtain ⟨cs, rfl, _⟩ := hv
    exact ⟨by simp, cs, rfl⟩
  · cases ht
section
variable {D : Type} {enc : TypeId × Value → D} {P : Program} {W : World} {ts : List TypeId}
theorem lay_all (hts : closedT P ts = true) : ∀ (ps : List TypeId) (vs : List Value) (ds : List (DataW D)) (pl : List MemPlace), DataW.TrodAll enc P W 0 (fun _ => true) true ps vs ds pl →
    (∀ t ∈ ps, ts.contains t = true) → (∀ (j : Nat) t v, ps[j]? = some t → vs[j]? = some v → ∃ base, Value.okWide P W .any base t v) → ∀ ρ h, Laid ρ h W →
    ∃ (ρ' : Rho) (h' : Heap) (hvs : List Value), Laid ρ' h' W ∧ h.le h' ∧ (∀ b x, ρ b = some x → ρ' b = some x) ∧ VRl ρ' W hvs vs ∧ TAs P h' ps hvs ds := by
  intro ps
  induction ps with
  | nil =>
    intro vs ds pl hA _ _ ρ h hl
    obtain ⟨rfl, rfl, rfl⟩ := trodAll_nil hA
    exact ⟨ρ, h, [], hl, .refl _, fun _ _ e => e, .nil _ _, trivial⟩
  | cons t ps ih =>
    intro vs ds pl hA hc hv ρ h hl
    obtain ⟨v, vs', d, ds', p, q, rfl, rfl, rfl, ⟨fuel, h1⟩, h2⟩ := trodAll_cons hA
    have hct := hc t (by simp)
    obtain ⟨base, hok⟩ := hv 0 t v rfl rfl
    obtain ⟨ρ1, h1', hcs, k1, k2, k3, k4, k5, k6⟩ := lay hts fuel t _ _ h1 hct ρ h hl
    obtain ⟨ρ2, h2', hvs, q1, q2, q3, q4, q5⟩ := ih vs' ds' q h2 (fun t ht => hc t (by simp [ht])) (fun j t v ht hv' => hv (j + 1) t v (by simpa using ht) (by simpa using hv')) ρ1 h1' k1
    have k4' := k4.mono q3 (fun r => Nat.le_refl (rowSize W r))
    rcases ok_cells (closedT_get hts hct) hok with ⟨ha, hcell⟩ | ⟨ha, cs, rfl⟩
    · rw [hcell] at k4'
      have hlen : hcs.length = 1 := k4'.1
      obtain ⟨x, rfl⟩ := List.length_eq_one_iff.1 hlen
      refine ⟨ρ2, h2', x :: hvs, q1, k2.trans q2, fun b x e => q3 _ _ (k3 _ _ e), .cons (by simpa using k4'.2 0 (by simp)) q4, .one _ _ _ ha (k6.le q2), q5⟩
    · refine ⟨ρ2, h2', .agg ⟨hcs⟩ :: hvs, q1, k2.trans q2, fun b x e => q3 _ _ (k3 _ _ e), .cons (VR.aggL k4' k5) q4, .agg _ _ _ ha (k6.le q2), q5⟩
theorem trodAll_kept (hl : laidOutB P = true) {W' : World} (hb : Below W.heap.size W W') : ∀ (ps : List TypeId) (vs : List Value) (ds : List (DataW D)) (pl : List MemPlace), (ps.all fun t => P.readableRec t && decide (t < P.types.size)) = true →
    DataW.TrodAll enc P W 0 (fun _ => true) true ps vs ds pl → DataW.TrodAll enc P W' 0 (fun b => decide (b < W.heap.size)) true ps vs ds pl := by
  intro ps
  induction ps with
  | nil =>
    intro vs ds pl _ hA
    obtain ⟨rfl, rfl, rfl⟩ := trodAll_nil hA
    exact trodAll_mk0
  | cons t ps ih =>
    intro vs ds pl hr hA
    obtain ⟨v, vs', d, ds', p, q, rfl, rfl, rfl, h1, h2⟩ := trodAll_cons hA
    simp only [List.all_cons, Bool.and_eq_true, decide_eq_true_eq] at hr
    have hlt : ∀ x ∈ p, x.block < W.heap.size := by obtain ⟨m, hm⟩ := h1; exact DataW.trod_lt m _ _ _ hm
    exact trodAll_cons_mk (Below.trod hl hr.1.1 hr.1.2 h1 hb hlt) (ih vs' ds' q (by simpa using hr.2) h2)
theorem law_calls {F : Nat → Option HFn} (hF : FOK P F) (hmix : P.follows .mixedOrders = true) (hts : closedT P ts = true) {k : Nat} {ps : List TypeId} {args : Array Value} {ds : List (DataW D)} {pl : List MemPlace}
    (hA : DataW.TrodAll enc P W 0 (fun _ => true) true ps args.toList ds pl) (hc : ∀ t ∈ ps, ts.contains t = true) (hv : ∀ (j : Nat) t v, ps[j]? = some t → args.toList[j]? = some v → ∃ base, Value.okWide P W .any base t v)
    (hlaw : ∀ h vs, (∀ b x, h.get b = some x → ∃ cs, x = .row cs none) → h.m = 0 → TAs P h ps vs ds → CallsR F h.n k vs h fun r _ => r = .ret (.bool true)) :
    Calls P k args W fun e W' => e = .returned (.bool true) ∧ Below W.heap.size W W' := by
  obtain ⟨ρ, h, vs, k1, _, _, k4, k5⟩ := lay_all hts ps args.toList ds pl hA hc hv _ _ (Laid.empty W)
  refine (calls_r hF hmix (hlaw h vs k1.plain k1.m0 k5) k1.inv k4).mono fun e w' hp => ?_
  obtain ⟨r, h', ρ', rfl, q1, q2, v', rfl, q3⟩ := hp
  exact ⟨by rw [VR.bool_inv q3], q1.below⟩
end
theorem weightsEach_app {D : Type} {P : Program} {us : List TypeId} : ∀ {ts : List TypeId} {ds : List (DataW D)}, ds.length = ts.length → DataW.weightsEach P (ts ++ us) ds = DataW.weightsEach P ts ds
  | [], [], _ => by cases us <;> simp [DataW.weightsEach]
  | t :: ts, d :: ds, h => by rw [List.cons_append, DataW.weightsEach, DataW.weightsEach, weightsEach_app (by simpa using h)]
theorem law_lifted {C : Checked} {os : Os} {f : FuncId} {fn : Func} {s : ChangeSpec} {conds : List PathCond} {D : Type} {enc : TypeId × Value → D} {F : Nat → Option HFn} {ts : List TypeId} {tb : TypeId}
    (own : ownKnob C.prog.godebug = none) (started : os.Started) (noInit : C.prog.inits.idxOf? f = none) (hfn : C.prog.funcs[f]? = some fn)
    (witness : ∃ (w : World) (tape : Tape) (i : Input), w.os = os ∧ (w.forCall tape i).Shaped C.prog ∧ i.vars = [] ∧ Input.okWide C.prog (w.forCall tape i) .any w.heap.size f i ∧
      s.pre6 enc C.prog fn conds false (w.forCall tape i).memory i.args ∧ ({} : Assume).holds C.prog (lone (Frame.enter C.prog f i.args .normal) [] (w.forCall tape i)))
    (hvars : s.vars = []) (hres : fn.resultTypes.toList = [tb]) (hb : C.prog.underlying tb = some .bool) (hs : ∀ ds : List (DataW D), ds.length = fn.params.size → s.fn D ds = { results := [.lit (.bool true)], args := ds })
    (hlaid : laidOutB C.prog = true) (hread : (fn.params.toList.all fun t => C.prog.readableRec t && decide (t < C.prog.types.size)) = true)
    (hF : FOK C.prog F) (hmix : C.prog.follows .mixedOrders = true) (hts : closedT C.prog ts = true) (hps : (fn.params.toList.all fun t => ts.contains t) = true)
    (hlaw : ∀ (ds : List (DataW D)) h vs, (∀ b x, h.get b = some x → ∃ cs, x = .row cs none) → h.m = 0 → TAs C.prog h fn.params.toList vs ds → (∀ n ∈ DataW.weightsEach C.prog fn.params.toList ds, n ≤ reachBytes) → CallsR F h.n f vs h fun r _ => r = .ret (.bool true)) :
    ReturnsInHanded {} C os f .any (s.pre6 enc C.prog fn conds false) (s.post enc C.prog fn false true false false) := by
  refine returnsInHanded_of_change_sized own started noInit hfn witness ?_
  intro W base args ds gs before hval hW _ hwt _
  have hW' := hW
  obtain ⟨p, q, hA, hV, rfl, hfz, hnd⟩ := hW
  rw [hvars] at hV
  obtain ⟨rfl, rfl⟩ := trodVars_none hV
  have hlen : ds.length = fn.params.size := by
    have : ∀ (ps : List TypeId) (vs : List Value) (ds : List (DataW D)) (pl : List MemPlace), DataW.TrodAll enc C.prog W 0 (fun _ => true) true ps vs ds pl → ds.length = ps.length := by
      intro ps
      induction ps with
      | nil => intro vs ds pl h; obtain ⟨_, rfl, _⟩ := trodAll_nil h; rfl
      | cons t ps ih =>
        intro vs ds pl h
        obtain ⟨v, vs', d, ds', p, q, rfl, rfl, rfl, _, h2⟩ := trodAll_cons h
        simp [ih _ _ _ h2]
    simpa using this _ _ _ _ hA
  have hlen' : ds.length = fn.params.toList.length := by simpa using hlen
  refine (law_calls (k := f) hF hmix hts hA (fun t ht => List.all_eq_true.1 hps t ht) (fun j t v ht hv => ⟨base, hval j t v (by simpa using ht) (by simpa using hv)⟩) (fun h vs h1 h2 h3 => hlaw ds h vs h1 h2 h3 fun n hn => ?_)).mono fun e W' ⟨he, bel⟩ => ?_
  · have := List.all_eq_true.1 hwt n (by rw [List.append_nil, weightsEach_app hlen']; exact hn)
    simpa using this
  subst he
  have hsf : s.fn D (ds ++ []) = { results := [.lit (.bool true)], args := ds } := by rw [List.append_nil]; exact hs ds hlen
  refine ⟨_, rfl, ds, [], _, [], p, [], hW', ?_, ?_, ?_, bel.frame _, fun h => by cases h⟩
  · rw [hsf, hres]
    have : (Value.bool true).resultList fn.resultTypes.size = [.bool true] := by
      have : fn.resultTypes.size = 1 := by rw [← Array.length_toList, hres]; rfl
      rw [this]; rfl
    rw [this]
    exact trodAll_mk1 (shut_bool hb _)
  · rw [hsf]; exact trodAll_kept hlaid bel _ _ _ _ hread hA
  · rw [hsf, hvars]; rfl
end
end Go.Proofs.Ytlidnionbofkaaa.Hm
