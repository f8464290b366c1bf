/- '==' and keys of maps: what the machine asks, told by H's own test of cells. -/
import Derived.Test.YtbjgnogcjglcoaaHL
import Derived.Laws.StructEq
import Derived.MapKept
import Derived.WideKeyMaps
namespace Go.Proofs.Ytbjgnogcjglcoaa.Hm
open Go Go.RowKit
set_option linter.all false
set_option linter.unusedSimpArgs false
section
variable {P : Program} {w : World}
theorem pureRun_ok {s : Sem Value} {v : Value} (h : pureRun s = some v) : s.run P w = .ok v w := by
  unfold pureRun at h; split at h
  · cases h; rfl
  · cases h
/-- The value of a type that lies in cells. -/
def View (P : Program) (XS : List Value) (base : Nat) (t : TypeId) (x : Value) : Prop :=
  match aggT P t with
  | some (some n) => ∃ cs : Array Value, x = .agg cs ∧ ∀ j, j < n → cs.toList[j]? = XS[base + j]?
  | some none => XS[base]? = some x
  | none => False
theorem eqcells_append (xs ys : List Value) : ∀ (a b : List (Nat × PK)), eqcells xs ys (a ++ b) = match eqcells xs ys a with
    | some true => eqcells xs ys b
    | r => r
  | [], b => rfl
  | o :: os, b => by
    simp only [List.cons_append, eqcells]
    split
    · split
      · exact eqcells_append xs ys os b
      · rename_i h; rename_i r hh
        split
        · rename_i h2; exact absurd h2 h
        · rfl
    · rfl
theorem part_view {XS : List Value} {base n s off : Nat} {cs : Array Value} {ft : TypeId} (hs : sizeT P ft = some s) (hv : ∀ j, j < n → cs.toList[j]? = XS[base + j]?) (hle : off + s ≤ n) (hs1 : 0 < s)
    (hg : ∃ g, aggT P ft = some g) (hx : aggT P ft = some none → ∃ v, XS[base + off]? = some v) : ∃ x, (part ft cs off).run P w = .ok x w ∧ View P XS (base + off) ft x := by
  obtain ⟨g, hg⟩ := hg
  cases g with
  | some m =>
    have hm := agg_size hg
    rw [hs] at hm; cases hm
    refine ⟨.agg (cs.extract off (off + s)), by simp [part, run_agg hg, run_size hs], ?_⟩
    unfold View
    rw [hg]
    refine ⟨_, rfl, fun j hj => ?_⟩
    rw [Array.toList_extract, List.extract_eq_take_drop, List.getElem?_take_of_lt (by omega), List.getElem?_drop, Nat.add_assoc, hv _ (by omega)]
  | none =>
    obtain ⟨v, hv2⟩ := hx hg
    refine ⟨v, ?_, by unfold View; rw [hg]; exact hv2⟩
    have := hv off (by omega)
    rw [hv2] at this
    have h2 : cs[off]? = some v := by rw [← this]; simp
    simp [part, run_agg hg, h2]
theorem agg_of_under_prim {t : TypeId} (h : P.underlying t = some .bool ∨ (∃ k, P.underlying t = some (.int k)) ∨ P.underlying t = some .string) : aggT P t = some none := by
  unfold aggT
  rcases h with h | ⟨k, h⟩ | h <;> rw [h]
theorem leaves_agg {d : Nat} {t : TypeId} {base : Nat} {l : List (Nat × PK)} (h : leaves P d t base = some l) : ∃ g, aggT P t = some g := by
  cases d with
  | zero => cases h
  | succ d =>
    cases hu : P.underlying t with
    | none => simp [leaves, hu] at h
    | some k =>
      cases k <;> simp only [leaves, hu] at h <;> (try cases h) <;> simp only [aggT, hu] <;> (try exact ⟨_, rfl⟩)
      · split at h
        · rename_i s n hs hn; rw [hn]; exact ⟨_, rfl⟩
        · cases h
      · split at h
        · cases h
        · split at h
          · rename_i n hn; rw [hn]; exact ⟨_, rfl⟩
          · cases h
/-- A cell that is compared is there. -/
theorem leaves_cell {d : Nat} {t : TypeId} {base : Nat} {l : List (Nat × PK)} (h : leaves P d t base = some l) (hg : aggT P t = some none) : ∃ k, l = [(base, k)] := by
  cases d with
  | zero => cases h
  | succ d =>
    cases hu : P.underlying t with
    | none => simp [leaves, hu] at h
    | some k =>
      cases k <;> simp only [leaves, hu] at h <;> simp only [aggT, hu] at hg <;> first | (cases h; done) | (cases h; exact ⟨_, rfl⟩) | (obtain ⟨n, _, e⟩ := Option.map_eq_some_iff.1 hg; cases e)
theorem eqcells_one {xs ys : List Value} {b : Nat} {k : PK} {l : List (Nat × PK)} {r : Bool} (h : eqcells xs ys ([(b, k)] ++ l) = some r) : (∃ v, xs[b]? = some v) ∧ ∃ v, ys[b]? = some v := by
  simp only [List.singleton_append, eqcells] at h
  split at h
  · rename_i a b' ha hb; exact ⟨⟨_, ha⟩, ⟨_, hb⟩⟩
  · cases h
theorem veq0_inv {k : PK} {x y : Value} {r : Bool} (h : veq0 k x y = some r) :
    (k = .bool ∧ ∃ a b, x = .bool a ∧ y = .bool b ∧ r = (a == b)) ∨ (k = .int ∧ ∃ q a b, x = .int q a ∧ y = .int q b ∧ r = (a == b)) ∨ (k = .str ∧ ∃ a b, x = .string a ∧ y = .string b ∧ r = (a == b)) := by
  cases k <;> cases x <;> (try (cases h; done)) <;> cases y <;> (try (cases h; done)) <;> simp only [veq0] at h
  · split at h
    · rename_i e; subst e; cases h; exact .inr (.inl ⟨rfl, _, _, _, rfl, rfl, rfl⟩)
    · cases h
  · cases h; exact .inl ⟨rfl, _, _, rfl, rfl, rfl⟩
  · cases h
    refine .inr (.inr ⟨rfl, _, _, rfl, rfl, ?_⟩)
    rw [beq_toListBytes, ByteArray.toList_eq, ByteArray.toList_eq]
    rw [Bool.eq_iff_iff]; simp
def PKof (P : Program) (k : PK) (t : TypeId) : Prop := (k = .bool ∧ P.underlying t = some .bool) ∨ (k = .int ∧ ∃ q, P.underlying t = some (.int q)) ∨ (k = .str ∧ P.underlying t = some .string)
theorem eq_prim {d : Nat} {t : TypeId} {k : PK} {x y : Value} {r : Bool} (h : veq0 k x y = some r) (hk : PKof P k t) : (Op.equalIn (d + 1) t x y).run P w = .ok r w := by
  rcases veq0_inv h with ⟨e, a, b, rfl, rfl, rfl⟩ | ⟨e, q, a, b, rfl, rfl, rfl⟩ | ⟨e, a, b, rfl, rfl, rfl⟩ <;> rcases hk with ⟨e2, hu⟩ | ⟨e2, q2, hu⟩ | ⟨e2, hu⟩ <;> (first | (rw [e] at e2; cases e2; done) | skip)
  · exact run_equalIn_bool' w d t _ _ hu
  · exact run_equalIn_int w d t _ _ _ _ hu
  · rw [run_equalIn_string w d t _ _ hu, beq_toListBytes]
theorem view_prim {XS : List Value} {base : Nat} {t : TypeId} {x : Value} {k : PK} (hk : PKof P k t) (h : View P XS base t x) : XS[base]? = some x := by
  have : aggT P t = some none := agg_of_under_prim (by rcases hk with ⟨_, h⟩ | ⟨_, h⟩ | ⟨_, h⟩ <;> simp [h])
  unfold View at h; rw [this] at h; exact h
theorem eqcells_prim {xs ys : List Value} {b : Nat} {k : PK} {x y : Value} {r : Bool} (hx : xs[b]? = some x) (hy : ys[b]? = some y) (h : eqcells xs ys [(b, k)] = some r) : veq0 k x y = some r := by
  simp only [eqcells, hx, hy] at h
  split at h
  · rename_i e; cases h; exact e
  · exact h
theorem view_struct {XS : List Value} {base n : Nat} {t : TypeId} {x : Value} {fs : Array Field} (hu : P.underlying t = some (.struct fs)) (hn : sizeT P t = some n) (h : View P XS base t x) : ∃ cs : Array Value, x = .agg cs ∧ ∀ j, j < n → cs.toList[j]? = XS[base + j]? := by
  have : aggT P t = some (some n) := by simp [aggT, hu, hn]
  unfold View at h; rw [this] at h; exact h
theorem view_array {XS : List Value} {base n len : Nat} {t e : TypeId} {x : Value} (hu : P.underlying t = some (.array len e)) (hn : sizeT P t = some n) (h : View P XS base t x) : ∃ cs : Array Value, x = .agg cs ∧ ∀ j, j < n → cs.toList[j]? = XS[base + j]? := by
  have : aggT P t = some (some n) := by simp [aggT, hu, hn]
  unfold View at h; rw [this] at h; exact h
theorem eqR_cons {d : Nat} {e : TypeId} {xs ys : Array Value} {i k : Nat} {is : List Nat} {a b : Value} {r s : Bool}
    (ha : (part e xs (i * k)).run P w = .ok a w) (hb : (part e ys (i * k)).run P w = .ok b w) (he : (Op.equalIn d e a b).run P w = .ok r w)
    (hr : r = true → (forIn is ((none : Option Bool), ()) (fun i _ => do
      if !(← Op.equalIn d e (← part e xs (i * k)) (← part e ys (i * k))) then pure (ForInStep.done (some false, ())) else pure (ForInStep.yield (none, ())))).run P w = .ok (if s then (none, ()) else (some false, ())) w) :
    (forIn (i :: is) ((none : Option Bool), ()) (fun i _ => do
      if !(← Op.equalIn d e (← part e xs (i * k)) (← part e ys (i * k))) then pure (ForInStep.done (some false, ())) else pure (ForInStep.yield (none, ())))).run P w = .ok (if r && s then (none, ()) else (some false, ())) w := by
  rw [List.forIn_cons]
  simp only [Sem.run_bind, ha, hb, he, Result.andThen_ok]
  cases r
  · simp
  · simpa using hr rfl
theorem eqArr_of {d t e n k : Nat} {xs ys : Array Value} {r : Bool} (hu : P.underlying t = some (.array n e)) (hs : (sizeOf e).run P w = .ok k w)
    (h : (forIn (List.range' 0 n) ((none : Option Bool), ()) (fun i _ => do
      if !(← Op.equalIn d e (← part e xs (i * k)) (← part e ys (i * k))) then pure (ForInStep.done (some false, ())) else pure (ForInStep.yield (none, ())))).run P w = .ok (if r then (none, ()) else (some false, ())) w) :
    (Op.equalIn (d + 1) t (.agg xs) (.agg ys)).run P w = .ok r w := by
  unfold Op.equalIn
  simp only [Sem.run_bind, run_under hu, Result.andThen_ok, hs, Std.Legacy.Range.forIn_eq_forIn_range', Std.Legacy.Range.size]
  rw [show (n - 0 + 1 - 1) / 1 = n by simp]
  rw [h]
  cases r <;> simp
theorem eq_fields (XS YS : List Value) (d n' N base : Nat) (xs ys : Array Value) (hx : ∀ j, j < N → xs.toList[j]? = XS[base + j]?) (hy : ∀ j, j < N → ys.toList[j]? = YS[base + j]?)
    (ih : ∀ (t : TypeId) (base : Nat) (l : List (Nat × PK)), leaves P d t base = some l → ∀ (x y : Value) (r : Bool), View P XS base t x → View P YS base t y → eqcells XS YS l = some r → (Op.equalIn n' t x y).run P w = .ok r w) :
    ∀ (fs : List Field) (l : List (Nat × PK)) (r : Bool), leavesF P (leaves P d) base N fs = some l → eqcells XS YS l = some r → (Op.eqFields n' xs ys fs).run P w = .ok r w
  | [], l, r, h, he => by
    simp only [leavesF] at h; cases h; simp only [eqcells] at he; cases he; simp [Op.eqFields]
  | f :: fs, l, r, h, he => by
    simp only [leavesF] at h
    split at h
    · cases h
    · rename_i hname
      split at h
      · rename_i s hs
        split at h
        · rename_i hle
          split at h
          · rename_i a b ha hb
            cases h
            rw [eqcells_append] at he
            have hex : aggT P f.type = some none → (∃ v, XS[base + f.offset]? = some v) ∧ ∃ v, YS[base + f.offset]? = some v := fun hg => by
              obtain ⟨k, rfl⟩ := leaves_cell ha hg
              rw [← eqcells_append] at he
              exact eqcells_one he
            obtain ⟨x, px, vx⟩ := part_view (w := w) hs hx hle.1 hle.2 (leaves_agg ha) (fun hg => (hex hg).1)
            obtain ⟨y, py, vy⟩ := part_view (w := w) hs hy hle.1 hle.2 (leaves_agg ha) (fun hg => (hex hg).2)
            simp only [Op.eqFields, ne_eq, hname, not_false_eq_true, if_true, Sem.run_bind, px, py, Result.andThen_ok]
            split at he
            · rename_i hra
              rw [ih _ _ _ ha x y true vx vy hra]
              simp only [Result.andThen_ok, Bool.not_true, Bool.false_eq_true, if_false]
              exact eq_fields XS YS d n' N base xs ys hx hy ih fs b r hb he
            · rename_i r1 hra
              rw [ih _ _ _ ha x y r vx vy he]
              cases r with
              | true => exact absurd he hra
              | false => simp
          · cases h
        · cases h
      · cases h
theorem eq_elems (XS YS : List Value) (d n' N base s : Nat) (e : TypeId) (hs : sizeT P e = some s) (hs1 : 0 < s) (xs ys : Array Value) (hx : ∀ j, j < N → xs.toList[j]? = XS[base + j]?) (hy : ∀ j, j < N → ys.toList[j]? = YS[base + j]?)
    (ih : ∀ (t : TypeId) (base : Nat) (l : List (Nat × PK)), leaves P d t base = some l → ∀ (x y : Value) (r : Bool), View P XS base t x → View P YS base t y → eqcells XS YS l = some r → (Op.equalIn n' t x y).run P w = .ok r w) :
    ∀ (len i : Nat) (l : List (Nat × PK)) (r : Bool), (i + len) * s ≤ N → leavesA (leaves P d e) base s i len = some l → eqcells XS YS l = some r →
      (forIn (List.range' i len) ((none : Option Bool), ()) (fun i _ => do
      if !(← Op.equalIn n' e (← part e xs (i * s)) (← part e ys (i * s))) then pure (ForInStep.done (some false, ())) else pure (ForInStep.yield (none, ())))).run P w = .ok (if r then (none, ()) else (some false, ())) w
  | 0, i, l, r, hN, h, he => by
    simp only [leavesA] at h; cases h; simp only [eqcells] at he; cases he; simp
  | len + 1, i, l, r, hN, h, he => by
    simp only [leavesA] at h
    split at h
    · rename_i a b ha hb
      cases h
      have h1 : i * s + s ≤ N := Nat.le_trans (by rw [← Nat.succ_mul]; exact Nat.mul_le_mul_right _ (by omega)) hN
      rw [eqcells_append] at he
      have hex : aggT P e = some none → (∃ v, XS[base + i * s]? = some v) ∧ ∃ v, YS[base + i * s]? = some v := fun hg => by
        obtain ⟨k, rfl⟩ := leaves_cell ha hg
        rw [← eqcells_append] at he
        exact eqcells_one he
      obtain ⟨x, px, vx⟩ := part_view (w := w) hs hx h1 hs1 (leaves_agg ha) (fun hg => (hex hg).1)
      obtain ⟨y, py, vy⟩ := part_view (w := w) hs hy h1 hs1 (leaves_agg ha) (fun hg => (hex hg).2)
      have hN' : (i + 1 + len) * s ≤ N := by rw [show i + 1 + len = i + (len + 1) by omega]; exact hN
      rw [List.range'_succ]
      split at he
      · rename_i hra
        have := eqR_cons (is := List.range' (i + 1) len) (s := r) px py (ih _ _ _ ha x y true vx vy hra) (fun _ => eq_elems XS YS d n' N base s e hs hs1 xs ys hx hy ih len (i + 1) b r hN' hb he)
        simpa using this
      · rename_i r1 hra
        cases r with
        | true => exact absurd he hra
        | false =>
          have := eqR_cons (is := List.range' (i + 1) len) (s := true) px py (ih _ _ _ ha x y false vx vy he) (fun h => by cases h)
          simpa using this
    · cases h
theorem eq_leaves (XS YS : List Value) : ∀ (d : Nat) (t : TypeId) (base : Nat) (l : List (Nat × PK)), leaves P d t base = some l → ∀ (n : Nat), d ≤ n → ∀ (x y : Value) (r : Bool),
    View P XS base t x → View P YS base t y → eqcells XS YS l = some r → (Op.equalIn n t x y).run P w = .ok r w
  | 0, t, base, l, h => by cases h
  | d + 1, t, base, l, h => by
    intro n hn x y r vx vy he
    obtain ⟨n', rfl⟩ : ∃ n', n = n' + 1 := ⟨n - 1, by omega⟩
    have ih := fun t base l h => eq_leaves XS YS d t base l h n' (by omega)
    cases hu : P.underlying t with
    | none => simp [leaves, hu] at h
    | some k =>
      cases k <;> simp only [leaves, hu] at h <;> (try (cases h; done))
      · cases h
        have hk : PKof P .bool t := .inl ⟨rfl, hu⟩
        exact eq_prim (eqcells_prim (view_prim hk vx) (view_prim hk vy) he) hk
      · cases h
        have hk : PKof P .int t := .inr (.inl ⟨rfl, _, hu⟩)
        exact eq_prim (eqcells_prim (view_prim hk vx) (view_prim hk vy) he) hk
      · cases h
        have hk : PKof P .str t := .inr (.inr ⟨rfl, hu⟩)
        exact eq_prim (eqcells_prim (view_prim hk vx) (view_prim hk vy) he) hk
      · rename_i len e
        split at h
        · rename_i s N hs hN
          split at h
          · rename_i hle
            obtain ⟨xs, rfl, hx⟩ := view_array hu hN vx
            obtain ⟨ys, rfl, hy⟩ := view_array hu hN vy
            exact eqArr_of hu (run_size hs) (eq_elems XS YS d n' N base s e hs hle.2 xs ys hx hy ih len 0 l r (by simpa using hle.1) h he)
          · cases h
        · cases h
      · rename_i fs
        split at h
        · cases h
        · rename_i hst
          split at h
          · rename_i N hN
            obtain ⟨xs, rfl, hx⟩ := view_struct hu hN vx
            obtain ⟨ys, rfl, hy⟩ := view_struct hu hN vy
            have hf : P.fieldsOf t = fs := by simp [Program.fieldsOf, hu]
            rw [run_equalIn_struct w n' t xs ys (by rw [hf]; exact hu) (by simpa using hst), hf]
            exact eq_fields XS YS d n' N base xs ys hx hy ih fs.toList l r h he
          · cases h
end
end Go.Proofs.Ytbjgnogcjglcoaa.Hm
