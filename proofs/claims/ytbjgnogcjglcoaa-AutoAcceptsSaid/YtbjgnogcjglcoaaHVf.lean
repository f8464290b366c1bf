/- A law's arguments in the logic with parts: all that they read stands for good. -/
import Derived.Test.YtbjgnogcjglcoaaHFrame
import Derived.Test.YtbjgnogcjglcoaaHVe
namespace Go.Proofs.Ytbjgnogcjglcoaa.Hm.V
open Go Go.Proofs.Ytbjgnogcjglcoaa.Hm
set_option linter.all false
def viewOf (h : Heap) : Vw := fun b => match h.get b with
  | some (.row cs none) => some (.row cs)
  | _ => none
theorem viewOf_row {h : Heap} {b : Nat} {cs : List Value} (e : h.get b = some (.row cs none)) : viewOf h b = some (.row cs) := by unfold viewOf; rw [e]
theorem cl_m0 {h : Heap} (hm : h.m = 0) (c : Nat) : h.cl c = none := by unfold Heap.cl; rw [hm]; simp
theorem mem_view {h : Heap} (hp : ∀ b x, h.get b = some x → ∃ cs, x = .row cs none) (hm : h.m = 0) : Mem h.n (viewOf h) [] h where
  own := fun o ho => absurd ho (by simp)
  nd := List.nodup_nil
  z := fun b x e => by
    unfold viewOf at e
    split at e
    · rename_i cs hg
      cases e
      exact ⟨cells_row hg, by simp [blks], fun cs' c e' => by rw [hg] at e'; cases e'⟩
    · cases e
  w1 := fun c t fl e => by rw [cl_m0 hm] at e; cases e
  w2 := fun b cs c e => by obtain ⟨cs', h1⟩ := hp b _ e; cases h1
  lon := Nat.le_refl _
theorem map_of {α : Type} {f : α → List Value} : ∀ {xs : List (List Value)}, (∀ x ∈ xs, ∃ a, x = f a) → ∃ l : List α, xs = l.map f
  | [], _ => ⟨[], rfl⟩
  | x :: xs, h => by
    obtain ⟨a, ha⟩ := h x (by simp)
    obtain ⟨l, hl⟩ := map_of (xs := xs) fun y hy => h y (by simp [hy])
    exact ⟨a :: l, by rw [ha, hl]; rfl⟩
/-- With what is known of each element. -/
theorem map_ofP {α : Type} {f : α → List Value} {p : α → Prop} : ∀ {xs : List (List Value)}, (∀ x ∈ xs, ∃ a, x = f a ∧ p a) → ∃ l : List α, xs = l.map f ∧ ∀ a ∈ l, p a
  | [], _ => ⟨[], rfl, fun a h => absurd h (by simp)⟩
  | x :: xs, h => by
    obtain ⟨a, ha, hp⟩ := h x (by simp)
    obtain ⟨l, hl, hq⟩ := map_ofP (xs := xs) fun y hy => h y (by simp [hy])
    refine ⟨a :: l, by rw [ha, hl]; rfl, fun b hb => ?_⟩
    rcases List.mem_cons.1 hb with rfl | hb
    · exact hp
    · exact hq b hb
section
variable {D : Type} {P : Program} {h : Heap} {t : TypeId} {d : DataW D} {v : Value} {cs : List Value}
theorem TR_int {k : IntKind} (kk : TR P h t cs d) (hu : P.underlying t = some (.int k)) : ∃ n, cs = [.int k n] ∧ (Lit.int k n).wf = true := by
  cases kk with
  | int _ k' n hu' hw => rw [hu] at hu'; cases hu'; exact ⟨n, rfl, hw⟩
  | bool _ b hu' => rw [hu] at hu'; cases hu'
  | str _ s hu' => rw [hu] at hu'; cases hu'
  | nils _ e hu' => rw [hu] at hu'; cases hu'
  | slice _ e b len cap es rest cf df hu' => rw [hu] at hu'; cases hu'
  | struct _ fs cs ds df hu' => rw [hu] at hu'; cases hu'
  | array _ e n cs ds df hu' => rw [hu] at hu'; cases hu'
theorem TR_bool (kk : TR P h t cs d) (hu : P.underlying t = some .bool) : ∃ b, cs = [.bool b] := by
  cases kk with
  | bool _ b hu' => exact ⟨b, rfl⟩
  | int _ k' n hu' => rw [hu] at hu'; cases hu'
  | str _ s hu' => rw [hu] at hu'; cases hu'
  | nils _ e hu' => rw [hu] at hu'; cases hu'
  | slice _ e b len cap es rest cf df hu' => rw [hu] at hu'; cases hu'
  | struct _ fs cs ds df hu' => rw [hu] at hu'; cases hu'
  | array _ e n cs ds df hu' => rw [hu] at hu'; cases hu'
theorem TR_str (kk : TR P h t cs d) (hu : P.underlying t = some .string) : ∃ s : ByteArray, cs = [.string s] ∧ s.size ≤ maxLen := by
  cases kk with
  | str _ s hu' hs => exact ⟨s, rfl, hs⟩
  | bool _ b hu' => rw [hu] at hu'; cases hu'
  | int _ k' n hu' => rw [hu] at hu'; cases hu'
  | nils _ e hu' => rw [hu] at hu'; cases hu'
  | slice _ e b len cap es rest cf df hu' => rw [hu] at hu'; cases hu'
  | struct _ fs cs ds df hu' => rw [hu] at hu'; cases hu'
  | array _ e n cs ds df hu' => rw [hu] at hu'; cases hu'
theorem TR_struct {fs : Array Field} (kk : TR P h t cs d) (hu : P.underlying t = some (.struct fs)) : cs.length = P.cellsOf t ∧ ∀ (i : Nat) (f : Field), fs[i]? = some f → ∃ d' : DataW D, TR P h f.type ((cs.drop f.offset).take (P.cellsOf f.type)) d' := by
  cases kk with
  | struct _ fs cs ds df hu' hl hn hf hd => rw [hu] at hu'; cases hu'; exact ⟨hl, fun i f e => ⟨df i, hf i f e⟩⟩
  | bool _ b hu' => rw [hu] at hu'; cases hu'
  | str _ s hu' => rw [hu] at hu'; cases hu'
  | int _ k' n hu' => rw [hu] at hu'; cases hu'
  | nils _ e hu' => rw [hu] at hu'; cases hu'
  | slice _ e b len cap es rest cf df hu' => rw [hu] at hu'; cases hu'
  | array _ e n cs ds df hu' => rw [hu] at hu'; cases hu'
theorem TR_array {n : Nat} {e : TypeId} (kk : TR P h t cs d) (hu : P.underlying t = some (.array n e)) : cs.length = n * P.cellsOf e ∧ ∀ i, i < n → ∃ d' : DataW D, TR P h e ((cs.drop (i * P.cellsOf e)).take (P.cellsOf e)) d' := by
  cases kk with
  | array _ e n cs ds df hu' hl hn hf hd => rw [hu] at hu'; cases hu'; exact ⟨hl, fun i hi => ⟨df i, hf i hi⟩⟩
  | struct _ fs cs ds df hu' => rw [hu] at hu'; cases hu'
  | bool _ b hu' => rw [hu] at hu'; cases hu'
  | str _ s hu' => rw [hu] at hu'; cases hu'
  | int _ k' n hu' => rw [hu] at hu'; cases hu'
  | nils _ e hu' => rw [hu] at hu'; cases hu'
  | slice _ e b len cap es rest cf df hu' => rw [hu] at hu'; cases hu'
theorem TR_slice {e : TypeId} (kk : TR P h t cs d) (hu : P.underlying t = some (.slice e)) : ∃ (v : Value) (xs : List (List Value)), cs = [v] ∧ Fz (viewOf h) (P.cellsOf e) v xs ∧ xs.length ≤ maxLen ∧ ∀ x ∈ xs, ∃ d' : DataW D, TR P h e x d' := by
  cases kk with
  | nils _ e hu' => exact ⟨_, [], rfl, Fz.nil _ _, Nat.zero_le _, fun x hx => absurd hx (by simp)⟩
  | slice _ e b len cap es rest cf df hu' he h1 h2 h3 hb hr ht hd =>
    rw [hu] at hu'; cases hu'
    obtain ⟨cs, hg⟩ := hb
    have hc := cells_row hg
    have hrd : ∀ i, i < cap → i * P.cellsOf e + P.cellsOf e ≤ cs.length ∧ (cs.drop (i * P.cellsOf e)).take (P.cellsOf e) = cf i := fun i hi => by
      have := hr i hi
      unfold Heap.rd at this
      rw [hc] at this
      simp only at this
      split at this
      · exact ⟨by assumption, Option.some.inj this⟩
      · cases this
    have key : ∀ m, m ≤ cap → m * P.cellsOf e ≤ cs.length ∧ cs.take (m * P.cellsOf e) = ((List.range m).map cf).flatten := by
      intro m
      induction m with
      | zero => intro _; simp
      | succ m ih =>
        intro hm
        obtain ⟨i1, i2⟩ := ih (by omega)
        obtain ⟨q1, q2⟩ := hrd m (by omega)
        rw [Nat.succ_mul]
        refine ⟨q1, ?_⟩
        rw [List.take_add, i2, q2, List.range_succ, List.map_append, List.flatten_append]
        simp
    have hlc : len ≤ cap := by omega
    obtain ⟨k1, k2⟩ := key len hlc
    refine ⟨_, (List.range len).map cf, rfl, ⟨fun x hx => ?_, .inr ⟨b, 0, none, cap, cs, by simp, by simpa using hlc, .inl rfl, viewOf_row hg, by simpa using k1, by simpa using k2⟩⟩, by simp; omega, fun x hx => ?_⟩
    · obtain ⟨i, hi, rfl⟩ := List.mem_map.1 hx
      have hi : i < cap := by have := List.mem_range.1 hi; omega
      obtain ⟨q1, q2⟩ := hrd i hi
      rw [← q2, List.length_take, List.length_drop]; omega
    · obtain ⟨i, hi, rfl⟩ := List.mem_map.1 hx
      have hi : i < cap := by have := List.mem_range.1 hi; omega
      exact ⟨df i, ht i hi⟩
  | struct _ fs cs ds df hu' => rw [hu] at hu'; cases hu'
  | array _ e n cs ds df hu' => rw [hu] at hu'; cases hu'
  | bool _ b hu' => rw [hu] at hu'; cases hu'
  | str _ s hu' => rw [hu] at hu'; cases hu'
  | int _ k' n hu' => rw [hu] at hu'; cases hu'
theorem TR_ints {e : TypeId} {k : IntKind} (kk : TR P h t cs d) (hu : P.underlying t = some (.slice e)) (he : P.underlying e = some (.int k)) (hz : P.cellsOf e = 1) :
    ∃ (v : Value) (l : List Int), cs = [v] ∧ Fz (viewOf h) 1 v (l.map fun n => [.int k n]) ∧ l.length ≤ maxLen ∧ ∀ n ∈ l, (Lit.int k n).wf = true := by
  obtain ⟨v, xs, rfl, h1, h2, h3⟩ := TR_slice kk hu
  obtain ⟨l, rfl, hl⟩ := map_ofP (f := fun n => [.int k n]) (p := fun n => (Lit.int k n).wf = true) fun x hx => let ⟨d', k'⟩ := h3 x hx; TR_int k' he
  rw [hz] at h1
  exact ⟨v, l, rfl, h1, by simpa using h2, hl⟩
/-- An argument that is an aggregate, or one cell. -/
theorem TA_agg (kk : TA P h t v d) (ha : isAgg P t = true) : ∃ cs, v = .agg ⟨cs⟩ ∧ TR P h t cs d := by
  cases kk with
  | one v d hb k => rw [ha] at hb; cases hb
  | agg cs d hb k => exact ⟨cs, rfl, k⟩
theorem TA_one (kk : TA P h t v d) (ha : isAgg P t = false) : TR P h t [v] d := by
  cases kk with
  | one v d hb k => exact k
  | agg cs d hb k => rw [ha] at hb; cases hb
end
theorem TAs_cons {D : Type} {P : Program} {h : Heap} {t : TypeId} {ts : List TypeId} {vs : List Value} {ds : List (DataW D)} (k : TAs P h (t :: ts) vs ds) : ∃ v vs' d ds', vs = v :: vs' ∧ ds = d :: ds' ∧ TA P h t v d ∧ TAs P h ts vs' ds' := by
  cases vs with
  | nil => cases ds <;> exact k.elim
  | cons v vs => cases ds with
    | nil => exact k.elim
    | cons d ds => exact ⟨v, vs, d, ds, rfl, rfl, k.1, k.2⟩
theorem TAs_nil {D : Type} {P : Program} {h : Heap} {vs : List Value} {ds : List (DataW D)} (k : TAs P h [] vs ds) : vs = [] := by
  cases vs with
  | nil => rfl
  | cons v vs => cases ds <;> exact k.elim
theorem callP_run {F : Nat → Option HFn} {k : Nat} {vs : List Value} {h : Heap} (hp : ∀ b x, h.get b = some x → ∃ cs, x = .row cs none) (hm : h.m = 0) (hc : CallP F h.n k vs (viewOf h) fun v _ => v = .bool true) : ∃ n v h', hcall F h.n n k vs h = some (v, h') ∧ v = .bool true := by
  obtain ⟨n, v, h', Z', O', h1, _, _, _, h2⟩ := hc [] h (mem_view hp hm)
  exact ⟨n, v, h', h1, h2⟩
end Go.Proofs.Ytbjgnogcjglcoaa.Hm.V
