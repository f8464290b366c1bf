import Derived.Test.YtlidnionbofkaaaA1
import Derived.Laws.StructEq
import Derived.MapKept
import Derived.WideKeyMaps
import Derived.Laws.Strings2
namespace Go.Proofs.Ytlidnionbofkaaa.Hm
noncomputable section
open Go Go.RowKit
set_option linter.all false
set_option linter.unusedSimpArgs false
section
variable {P : Program} {w : World}
theorem pureRun_ok {s : Sem Value} {v : Value} (h : pureRun s = some v) : s.run P w = .ok v w := by
  unfold pureRun at h; split at h
  · cases h; rfl
  · cases h
def View (P : Program) (XS : List Value) (base : Nat) (t : TypeId) (x : Value) : Prop :=
  match aggT P t with
  | some (some n) => ∃ cs : Array Value, x = .agg cs ∧ ∀ j, j < n → cs.toList[j]? = XS[base + j]?
  | some none => XS[base]? = some x
  | none => False
theorem eqcells_append (xs ys : List Value) : ∀ (a b : List (Nat × PK)), eqcells xs ys (a ++ b) = match eqcells xs ys a with
    | some true => eqcells xs ys b
    | r => r
  | [], b => rfl
  | o :: os, b => by
    simp only [List.cons_append, eqcells]
    split
    · split
      · exact eqcells_append xs ys os b
      · rename_i h; rename_i r hh
        split
        · rename_i h2; exact absurd h2 h
        · rfl
    · rfl
theorem part_view {XS : List Value} {base n s off : Nat} {cs : Array Value} {ft : TypeId} (hs : sizeT P ft = some s) (hv : ∀ j, j < n → cs.toList[j]? = XS[base + j]?) (hle : off + s ≤ n) (hs1 : 0 < s)
    (hg : ∃ g, aggT P ft = some g) (hx : aggT P ft = some none → ∃ v, XS[base + off]? = some v) : ∃ x, (part ft cs off).run P w = .ok x w ∧ View P XS (base + off) ft x := by
  obtain ⟨g, hg⟩ := hg
  cases g with
  | some m =>
    have hm := agg_size hg
    rw [hs] at hm; cases hm
    refine ⟨.agg (cs.extract off (off + s)), by simp [part, run_agg hg, run_size hs], ?_⟩
    unfold View
    rw [hg]
    refine ⟨_, rfl, fun j hj => ?_⟩
    rw [Array.toList_extract, List.extract_eq_take_drop, List.getElem?_take_of_lt (by omega), List.getElem?_drop, Nat.add_assoc, hv _ (by omega)]
  | none =>
    obtain ⟨v, hv2⟩ := hx hg
    refine ⟨v, ?_, by unfold View; rw [hg]; exact hv2⟩
    have := hv off (by omega)
    rw [hv2] at this
    have h2 : cs[off]? = some v := by rw [← this]; simp
    simp [part, run_agg hg, h2]
theorem agg_of_under_prim {t : TypeId} (h : P.underlying t = some .bool ∨ (∃ k, P.underlying t = some (.int k)) ∨ P.underlying t = some .string) : aggT P t = some none := by
  unfold aggT
  rcases h with h | ⟨k, h⟩ | h <;> rw [h]
theorem leaves_agg {d : Nat} {t : TypeId} {base : Nat} {l : List (Nat × PK)} (h : leaves P d t base = some l) : ∃ g, aggT P t = some g := by
  cases d with
  | zero => cases h
  | succ d =>
    cases hu : P.underlying t with
    | none => simp [leaves, hu] at h
    | some k =>
      cases k <;> simp only [leaves, hu] at h <;> (try cases h) <;> simp only [aggT, hu] <;> (try exact ⟨_, rfl⟩)
      · split at h
        · rename_i s n hs hn; rw [hn]; exact ⟨_, rfl⟩
        · cases h
      · split at h
        · cases h
        · split at h
          · rename_i n hn; rw [hn]; exact ⟨_, rfl⟩
          · cases h
theorem leaves_cell {d : Nat} {t : TypeId} {base : Nat} {l : List (Nat × PK)} (h : leaves P d t base = some l) (hg : aggT P t = some none) : ∃ k, l = [(base, k)] := by
  cases d with
  | zero => cases h
  | succ d =>
    cases hu : P.underlying t with
    | none => simp [leaves, hu] at h
    | some k =>
      cases k <;> simp only [leaves, hu] at h <;> simp only [aggT, hu] at hg <;> first | (cases h; done) | (cases h; exact ⟨_, rfl⟩) | (obtain ⟨n, _, e⟩ := Option.map_eq_some_iff.1 hg; cases e)
theorem eqcells_one {xs ys : List Value} {b : Nat} {k : PK} {l : List (Nat × PK)} {r : Bool} (h : eqcells xs ys ([(b, k)] ++ l) = some r) : (∃ v, xs[b]? = some v) ∧ ∃ v, ys[b]? = some v := by
  simp only [List.singleton_append, eqcells] at h
  split at h
  · rename_i a b' ha hb; exact ⟨⟨_, ha⟩, ⟨_, hb⟩⟩
  · cases h
theorem veq0_inv {k : PK} {x y : Value} {r : Bool} (h : veq0 k x y = some r) :
    (k = .bool ∧ ∃ a b, x = .bool a ∧ y = .bool b ∧ r = (a == b)) ∨ (k = .int ∧ ∃ q a b, x = .int q a ∧ y = .int q b ∧ r = (a == b)) ∨ (k = .str ∧ ∃ a b, x = .string a ∧ y = .string b ∧ r = (a == b)) := by
  cases k <;> cases x <;> (try (cases h; done)) <;> cases y <;> (try (cases h; done)) <;> simp only [veq0] at h
  · split at h
    · rename_i e; subst e; cases h; exact .inr (.inl ⟨rfl, _, _, _, rfl, rfl, rfl⟩)
    · cases h
  · cases h; exact .inl ⟨rfl, _, _, rfl, rfl, rfl⟩
  · cases h
    refine .inr (.inr ⟨rfl, _, _, rfl, rfl, ?_⟩)
    rw [beq_toListBytes, ByteArray.toList_eq, ByteArray.toList_eq]
    rw [Bool.eq_iff_iff]; simp
def PKof (P : Program) (k : PK) (t : TypeId) : Prop := (k = .bool ∧ P.underlying t = some .bool) ∨ (k = .int ∧ ∃ q, P.underlying t = some (.int q)) ∨ (k = .str ∧ P.underlying t = some .string)
theorem eq_prim {d : Nat} {t : TypeId} {k : PK} {x y : Value} {r : Bool} (h : veq0 k x y = some r) (hk : PKof P k t) : (Op.equalIn (d + 1) t x y).run P w = .ok r w := by
  rcases veq0_inv h with ⟨e, a, b, rfl, rfl, rfl⟩ | ⟨e, q, a, b, rfl, rfl, rfl⟩ | ⟨e, a, b, rfl, rfl, rfl⟩ <;> rcases hk with ⟨e2, hu⟩ | ⟨e2, q2, hu⟩ | ⟨e2, hu⟩ <;> (first | (rw [e] at e2; cases e2; done) | skip)
  · exact run_equalIn_bool' w d t _ _ hu
  · exact run_equalIn_int w d t _ _ _ _ hu
  · rw [run_equalIn_string w d t _ _ hu, beq_toListBytes]
theorem view_prim {XS : List Value} {base : Nat} {t : TypeId} {x : Value} {k : PK} (hk : PKof P k t) (h : View P XS base t x) : XS[base]? = some x := by
  have : aggT P t = some none := agg_of_under_prim (by rcases hk with ⟨_, h⟩ | ⟨_, h⟩ | ⟨_, h⟩ <;> simp [h])
  unfold View at h; rw [this] at h; exact h
theorem eqcells_prim {xs ys : List Value} {b : Nat} {k : PK} {x y : Value} {r : Bool} (hx : xs[b]? = some x) (hy : ys[b]? = some y) (h : eqcells xs ys [(b, k)] = some r) : veq0 k x y = some r := by
  simp only [eqcells, hx, hy] at h
  split at h
  · rename_i e; cases h; exact e
  · exact h
theorem view_struct {XS : List Value} {base n : Nat} {t : TypeId} {x : Value} {fs : Array Field} (hu : P.underlying t = some (.struct fs)) (hn : sizeT P t = some n) (h : View P XS base t x) : ∃ cs : Array Value, x = .agg cs ∧ ∀ j, j < n → cs.toList[j]? = XS[base + j]? := by
  have : aggT P t = some (some n) := by simp [aggT, hu, hn]
  unfold View at h; rw [this] at h; exact h
theorem view_array {XS : List Value} {base n len : Nat} {t e : TypeId} {x : Value} (hu : P.underlying t = some (.array len e)) (hn : sizeT P t = some n) (h : View P XS base t x) : ∃ cs : Array Value, x = .agg cs ∧ ∀ j, j < n → cs.toList[j]? = XS[base + j]? := by
  have : aggT P t = some (some n) := by simp [aggT, hu, hn]
  unfold View at h; rw [this] at h; exact h
theorem eqR_cons {d : Nat} {e : TypeId} {xs ys : Array Value} {i k : Nat} {is : List Nat} {a b : Value} {r s : Bool}
    (ha : (part e xs (i * k)).run P w = .ok a w) (hb : (part e ys (i * k)).run P w = .ok b w) (he : (Op.equalIn d e a b).run P w = .ok r w)
    (hr : r = true → (forIn is ((none : Option Bool), ()) (fun i _ => do
      if !(← Op.equalIn d e (← part e xs (i * k)) (← part e ys (i * k))) then pure (ForInStep.done (some false, ())) else pure (ForInStep.yield (none, ())))).run P w = .ok (if s then (none, ()) else (some false, ())) w) :
    (forIn (i :: is) ((none : Option Bool), ()) (fun i _ => do
      if !(← Op.equalIn d e (← part e xs (i * k)) (← part e ys (i * k))) then pure (ForInStep.done (some false, ())) else pure (ForInStep.yield (none, ())))).run P w = .ok (if r && s then (none, ()) else (some false, ())) w := by
  rw [List.forIn_cons]
  simp only [Sem.run_bind, ha, hb, he, Result.andThen_ok]
  cases r
  · simp
  · simpa using hr rfl
theorem eqArr_of {d t e n k : Nat} {xs ys : Array Value} {r : Bool} (hu : P.underlying t = some (.array n e)) (hs : (sizeOf e).run P w = .ok k w)
    (h : (forIn (List.range' 0 n) ((none : Option Bool), ()) (fun i _ => do
      if !(← Op.equalIn d e (← part e xs (i * k)) (← part e ys (i * k))) then pure (ForInStep.done (some false, ())) else pure (ForInStep.yield (none, ())))).run P w = .ok (if r then (none, ()) else (some false, ())) w) :
    (Op.equalIn (d + 1) t (.agg xs) (.agg ys)).run P w = .ok r w := by
  unfold Op.equalIn
  simp only [Sem.run_bind, run_under hu, Result.andThen_ok, hs, Std.Legacy.Range.forIn_eq_forIn_range', Std.Legacy.Range.size]
  rw [show (n - 0 + 1 - 1) / 1 = n by simp]
  rw [h]
  cases r <;> simp
theorem eq_fields (XS YS : List Value) (d n' N base : Nat) (xs ys : Array Value) (hx : ∀ j, j < N → xs.toList[j]? = XS[base + j]?) (hy : ∀ j, j < N → ys.toList[j]? = YS[base + j]?)
    (ih : ∀ (t : TypeId) (base : Nat) (l : List (Nat × PK)), leaves P d t base = some l → ∀ (x y : Value) (r : Bool), View P XS base t x → View P YS base t y → eqcells XS YS l = some r → (Op.equalIn n' t x y).run P w = .ok r w) :
    ∀ (fs : List Field) (l : List (Nat × PK)) (r : Bool), leavesF P (leaves P d) base N fs = some l → eqcells XS YS l = some r → (Op.eqFields n' xs ys fs).run P w = .ok r w
  | [], l, r, h, he => by
    simp only [leavesF] at h; cases h; simp only [eqcells] at he; cases he; simp [Op.eqFields]
  | f :: fs, l, r, h, he => by
    simp only [leavesF] at h
    split at h
    · cases h
    · rename_i hname
      split at h
      · rename_i s hs
        split at h
        · rename_i hle
          split at h
          · rename_i a b ha hb
            cases h
            rw [eqcells_append] at he
            have hex : aggT P f.type = some none → (∃ v, XS[base + f.offset]? = some v) ∧ ∃ v, YS[base + f.offset]? = some v := fun hg => by
              obtain ⟨k, rfl⟩ := leaves_cell ha hg
              rw [← eqcells_append] at he
              exact eqcells_one he
            obtain ⟨x, px, vx⟩ := part_view (w := w) hs hx hle.1 hle.2 (leaves_agg ha) (fun hg => (hex hg).1)
            obtain ⟨y, py, vy⟩ := part_view (w := w) hs hy hle.1 hle.2 (leaves_agg ha) (fun hg => (hex hg).2)
            simp only [Op.eqFields, ne_eq, hname, not_false_eq_true, if_true, Sem.run_bind, px, py, Result.andThen_ok]
            split at he
            · rename_i hra
              rw [ih _ _ _ ha x y true vx vy hra]
              simp only [Result.andThen_ok, Bool.not_true, Bool.false_eq_true, if_false]
              exact eq_fields XS YS d n' N base xs ys hx hy ih fs b r hb he
            · rename_i r1 hra
              rw [ih _ _ _ ha x y r vx vy he]
              cases r with
              | true => exact absurd he hra
              | false => simp
          · cases h
        · cases h
      · cases h
theorem eq_elems (XS YS : List Value) (d n' N base s : Nat) (e : TypeId) (hs : sizeT P e = some s) (hs1 : 0 < s) (xs ys : Array Value) (hx : ∀ j, j < N → xs.toList[j]? = XS[base + j]?) (hy : ∀ j, j < N → ys.toList[j]? = YS[base + j]?)
    (ih : ∀ (t : TypeId) (base : Nat) (l : List (Nat × PK)), leaves P d t base = some l → ∀ (x y : Value) (r : Bool), View P XS base t x → View P YS base t y → eqcells XS YS l = some r → (Op.equalIn n' t x y).run P w = .ok r w) :
    ∀ (len i : Nat) (l : List (Nat × PK)) (r : Bool), (i + len) * s ≤ N → leavesA (leaves P d e) base s i len = some l → eqcells XS YS l = some r →
      (forIn (List.range' i len) ((none : Option Bool), ()) (fun i _ => do
      if !(← Op.equalIn n' e (← part e xs (i * s)) (← part e ys (i * s))) then pure (ForInStep.done (some false, ())) else pure (ForInStep.yield (none, ())))).run P w = .ok (if r then (none, ()) else (some false, ())) w
  | 0, i, l, r, hN, h, he => by
    simp only [leavesA] at h; cases h; simp only [eqcells] at he; cases he; simp
  | len + 1, i, l, r, hN, h, he => by
    simp only [leavesA] at h
    split at h
    · rename_i a b ha hb
      cases h
      have h1 : i * s + s ≤ N := Nat.le_trans (by rw [← Nat.succ_mul]; exact Nat.mul_le_mul_right _ (by omega)) hN
      rw [eqcells_append] at he
      have hex : aggT P e = some none → (∃ v, XS[base + i * s]? = some v) ∧ ∃ v, YS[base + i * s]? = some v := fun hg => by
        obtain ⟨k, rfl⟩ := leaves_cell ha hg
        rw [← eqcells_append] at he
        exact eqcells_one he
      obtain ⟨x, px, vx⟩ := part_view (w := w) hs hx h1 hs1 (leaves_agg ha) (fun hg => (hex hg).1)
      obtain ⟨y, py, vy⟩ := part_view (w := w) hs hy h1 hs1 (leaves_agg ha) (fun hg => (hex hg).2)
      have hN' : (i + 1 + len) * s ≤ N := by rw [show i + 1 + len = i + (len + 1) by omega]; exact hN
      rw [List.range'_succ]
      split at he
      · rename_i hra
        have := eqR_cons (is := List.range' (i + 1) len) (s := r) px py (ih _ _ _ ha x y true vx vy hra) (fun _ => eq_elems XS YS d n' N base s e hs hs1 xs ys hx hy ih len (i + 1) b r hN' hb he)
        simpa using this
      · rename_i r1 hra
        cases r with
        | true => exact absurd he hra
        | false =>
          have := eqR_cons (is := List.range' (i + 1) len) (s := true) px py (ih _ _ _ ha x y false vx vy he) (fun h => by cases h)
          simpa using this
    · cases h
theorem eq_leaves (XS YS : List Value) : ∀ (d : Nat) (t : TypeId) (base : Nat) (l : List (Nat × PK)), leaves P d t base = some l → ∀ (n : Nat), d ≤ n → ∀ (x y : Value) (r : Bool),
    View P XS base t x → View P YS base t y → eqcells XS YS l = some r → (Op.equalIn n t x y).run P w = .ok r w
  | 0, t, base, l, h => by cases h
  | d + 1, t, base, l, h => by
    intro n hn x y r vx vy he
    obtain ⟨n', rfl⟩ : ∃ n', n = n' + 1 := ⟨n - 1, by omega⟩
    have ih := fun t base l h => eq_leaves XS YS d t base l h n' (by omega)
    cases hu : P.underlying t with
    | none => simp [leaves, hu] at h
    | some k =>
      cases k <;> simp only [leaves, hu] at h <;> (try (cases h; done))
      · cases h
        have hk : PKof P .bool t := .inl ⟨rfl, hu⟩
        exact eq_prim (eqcells_prim (view_prim hk vx) (view_prim hk vy) he) hk
      · cases h
        have hk : PKof P .int t := .inr (.inl ⟨rfl, _, hu⟩)
        exact eq_prim (eqcells_prim (view_prim hk vx) (view_prim hk vy) he) hk
      · cases h
        have hk : PKof P .str t := .inr (.inr ⟨rfl, hu⟩)
        exact eq_prim (eqcells_prim (view_prim hk vx) (view_prim hk vy) he) hk
      · rename_i len e
        split at h
        · rename_i s N hs hN
          split at h
          · rename_i hle
            obtain ⟨xs, rfl, hx⟩ := view_array hu hN vx
            obtain ⟨ys, rfl, hy⟩ := view_array hu hN vy
            exact eqArr_of hu (run_size hs) (eq_elems XS YS d n' N base s e hs hle.2 xs ys hx hy ih len 0 l r (by simpa using hle.1) h he)
          · cases h
        · cases h
      · rename_i fs
        split at h
        · cases h
        · rename_i hst
          split at h
          · rename_i N hN
            obtain ⟨xs, rfl, hx⟩ := view_struct hu hN vx
            obtain ⟨ys, rfl, hy⟩ := view_struct hu hN vy
            have hf : P.fieldsOf t = fs := by simp [Program.fieldsOf, hu]
            rw [run_equalIn_struct w n' t xs ys (by rw [hf]; exact hu) (by simpa using hst), hf]
            exact eq_fields XS YS d n' N base xs ys hx hy ih fs.toList l r h he
          · cases h
end
end
end Go.Proofs.Ytlidnionbofkaaa.Hm
namespace Go.Proofs.Ytlidnionbofkaaa.Hm
noncomputable section
open Go Go.RowKit
set_option linter.all false
set_option linter.unusedSimpArgs false
section
variable {P : Program} {w : World} {ρ : Rho}
theorem VR.prim {k : PK} {x x' : Value} (h : VR ρ w x x') {y : Value} {r : Bool} (e : veq0 k x y = some r) : x' = x := by
  rcases veq0_inv e with ⟨_, a, b, rfl, _⟩ | ⟨_, q, a, b, rfl, _⟩ | ⟨_, a, b, rfl, _⟩ <;> cases h <;> rfl
theorem VR.prim2 {k : PK} {x y y' : Value} (h : VR ρ w y y') {r : Bool} (e : veq0 k x y = some r) : y' = y := by
  rcases veq0_inv e with ⟨_, a, b, _, rfl, _⟩ | ⟨_, q, a, b, _, rfl, _⟩ | ⟨_, a, b, _, rfl, _⟩ <;> cases h <;> rfl
theorem eqcells_vr {xs xs' ys ys' : List Value} (hx : VRl ρ w xs xs') (hy : VRl ρ w ys ys') : ∀ (l : List (Nat × PK)) (r : Bool), eqcells xs ys l = some r → eqcells xs' ys' l = some r
  | [], r, h => h
  | o :: os, r, h => by
    simp only [eqcells] at h ⊢
    split at h
    · rename_i a b ha hb
      obtain ⟨a', ha', va⟩ := hx.get ha
      obtain ⟨b', hb', vb⟩ := hy.get hb
      rw [ha', hb']
      split at h
      · rename_i e
        rw [va.prim e, vb.prim2 e]
        simp only [e]
        exact eqcells_vr hx hy os r h
      · rename_i r1 e
        rw [va.prim h, vb.prim2 h]
        simp only [h]
        split
        · rename_i e2; exact absurd (h.trans e2) e
        · rfl
    · cases h
theorem forIn_ok {α : Type} {f : α → Sem (ForInStep PUnit)} : ∀ (l : List α), (∀ x ∈ l, (f x).run P w = .ok (ForInStep.yield ()) w) → (forIn l () (fun x _ => f x)).run P w = .ok () w
  | [], _ => by simp
  | x :: l, h => by
    rw [List.forIn_cons]
    simp only [Sem.run_bind, h x (by simp), Result.andThen_ok]
    exact forIn_ok l fun y hy => h y (by simp [hy])
theorem ck_prim {k : PK} {t : TypeId} (hk : PKof P k t) (em : Bool) (n : Nat) (x : Value) : (Instr.checkKey em (n + 1) t x).run P w = .ok () w := by
  unfold Instr.checkKey
  rcases hk with ⟨_, hu⟩ | ⟨_, q, hu⟩ | ⟨_, hu⟩ <;> simp [run_under hu]
theorem leavesF_mem {d : Nat} {base N : Nat} : ∀ {fs : List Field} {l : List (Nat × PK)}, leavesF P (leaves P d) base N fs = some l → ∀ f ∈ fs, ∃ s a, sizeT P f.type = some s ∧ f.offset + s ≤ N ∧ 0 < s ∧ leaves P d f.type (base + f.offset) = some a ∧ ∀ o ∈ a, o ∈ l
  | [], l, h, f, hf => by cases hf
  | g :: fs, l, h, f, hf => by
    simp only [leavesF] at h
    split at h
    · cases h
    · split at h
      · rename_i s hs
        split at h
        · rename_i hle
          split at h
          · rename_i a b ha hb
            cases h
            cases hf with
            | head => exact ⟨s, a, hs, hle.1, hle.2, ha, fun o ho => by simp [ho]⟩
            | tail _ hf =>
              obtain ⟨s2, a2, h1, h2, h3, h4, h5⟩ := leavesF_mem hb f hf
              exact ⟨s2, a2, h1, h2, h3, h4, fun o ho => by simp [h5 o ho]⟩
          · cases h
        · cases h
      · cases h
theorem leavesA_mem {f : Nat → Option (List (Nat × PK))} {base s : Nat} : ∀ {len i : Nat} {l : List (Nat × PK)}, leavesA f base s i len = some l → ∀ j, i ≤ j → j < i + len → ∃ a, f (base + j * s) = some a ∧ ∀ o ∈ a, o ∈ l
  | 0, i, l, h, j, h1, h2 => by omega
  | len + 1, i, l, h, j, h1, h2 => by
    simp only [leavesA] at h
    split at h
    · rename_i a b ha hb
      cases h
      by_cases e : j = i
      · subst e; exact ⟨a, ha, fun o ho => by simp [ho]⟩
      · obtain ⟨a2, h3, h4⟩ := leavesA_mem hb j (by omega) (by omega)
        exact ⟨a2, h3, fun o ho => by simp [h4 o ho]⟩
    · cases h
theorem ck_leaves (XS : List Value) (em : Bool) : ∀ (d : Nat) (t : TypeId) (base : Nat) (l : List (Nat × PK)), leaves P d t base = some l → ∀ (n : Nat), d ≤ n → ∀ (x : Value), View P XS base t x → (∀ o ∈ l, ∃ v, XS[o.1]? = some v) →
    (Instr.checkKey em n t x).run P w = .ok () w
  | 0, t, base, l, h => by cases h
  | d + 1, t, base, l, h => by
    intro n hn x vx hl
    obtain ⟨n', rfl⟩ : ∃ n', n = n' + 1 := ⟨n - 1, by omega⟩
    cases hu : P.underlying t with
    | none => simp [leaves, hu] at h
    | some k =>
      cases k <;> simp only [leaves, hu] at h <;> (try (cases h; done))
      · exact ck_prim (k := .bool) (.inl ⟨rfl, hu⟩) em n' x
      · exact ck_prim (k := .int) (.inr (.inl ⟨rfl, _, hu⟩)) em n' x
      · exact ck_prim (k := .str) (.inr (.inr ⟨rfl, hu⟩)) em n' x
      · rename_i len e
        split at h
        · rename_i s N hs hN
          split at h
          · rename_i hle
            obtain ⟨xs, rfl, hx⟩ := view_array hu hN vx
            unfold Instr.checkKey
            simp only [Sem.run_bind, run_under hu, Result.andThen_ok, Std.Legacy.Range.forIn_eq_forIn_range', Std.Legacy.Range.size]
            rw [forIn_ok]
            · simp
            · intro i hi
              have hi' : i < len := by simpa using hi
              obtain ⟨a, ha, hal⟩ := leavesA_mem h i (by omega) (by omega)
              have h1 : i * s + s ≤ N := Nat.le_trans (by rw [← Nat.succ_mul]; exact Nat.mul_le_mul_right _ (by omega)) hle.1
              obtain ⟨v, pv, vv⟩ := part_view (w := w) hs hx h1 hle.2 (leaves_agg ha) (fun hg => by
                obtain ⟨k, rfl⟩ := leaves_cell ha hg
                exact hl (base + i * s, k) (hal _ (by simp)))
              have := ck_leaves XS em d e (base + i * s) a ha n' (by omega) v vv (fun o ho => hl o (hal o ho))
              simp [run_size hs, pv, this]
          · cases h
        · cases h
      · rename_i fs
        split at h
        · cases h
        · split at h
          · rename_i N hN
            obtain ⟨xs, rfl, hx⟩ := view_struct hu hN vx
            unfold Instr.checkKey
            simp only [Sem.run_bind, run_under hu, Result.andThen_ok]
            rw [← Array.forIn_toList]
            rw [forIn_ok]
            · simp
            · intro f hf
              obtain ⟨s, a, hs, hle, hs1, ha, hal⟩ := leavesF_mem h f hf
              obtain ⟨v, pv, vv⟩ := part_view (w := w) hs hx hle hs1 (leaves_agg ha) (fun hg => by
                obtain ⟨k, rfl⟩ := leaves_cell ha hg
                exact hl (base + f.offset, k) (hal _ (by simp)))
              have := ck_leaves XS em d f.type (base + f.offset) a ha n' (by omega) v vv (fun o ho => hl o (hal o ho))
              by_cases hnm : f.name ≠ "_"
              · simp [hnm, pv, this]
              · simp [hnm]
          · cases h
theorem keyT_inv {t : TypeId} {D : EqD} (h : keyT P t = some D) : (∃ k, D = .prim k ∧ PKof P k t) ∨ ∃ n l, D = .cells n l ∧ sizeT P t = some n ∧ leaves P 20 t 0 = some l ∧ l.map (·.1) = List.range n ∧ aggT P t = some (some n) ∧
    (match P.underlying t with | some (.array _ _) | some (.struct _) => true | _ => false) = true ∧ P.eqGuardType P.depth t = false := by
  unfold keyT at h
  split at h
  · rename_i k he
    cases h
    left
    refine ⟨k, rfl, ?_⟩
    unfold eqT at he
    cases hu : P.underlying t with
    | none => simp [hu] at he
    | some d =>
      cases d <;> simp only [hu] at he <;> (try (cases he; done))
      · cases he; exact .inl ⟨rfl, hu⟩
      · cases he; exact .inr (.inl ⟨rfl, _, hu⟩)
      · cases he; exact .inr (.inr ⟨rfl, hu⟩)
      all_goals (split at he <;> (try (cases he; done)) <;> split at he <;> cases he)
  · rename_i n l he
    split at h
    · rename_i hr
      cases h
      right
      refine ⟨n, l, rfl, ?_⟩
      unfold eqT at he
      cases hu : P.underlying t with
      | none => simp [hu] at he
      | some d =>
        cases d <;> simp only [hu] at he <;> (try (cases he; done))
        all_goals
          split at he
          · cases he
          · rename_i hg
            split at he
            · rename_i n2 l2 hn hl
              cases he
              exact ⟨hn, hl, hr, by simp [aggT, hu, hn], rfl, by simpa using hg⟩
            · cases he
    · cases h
  · cases h
theorem view_whole {t : TypeId} {n : Nat} (hg : aggT P t = some (some n)) {xs : Array Value} : View P xs.toList 0 t (.agg xs) := by
  unfold View; rw [hg]; exact ⟨xs, rfl, fun j hj => by simp⟩
theorem eqT_cells {t : TypeId} {n : Nat} {l : List (Nat × PK)} (h : eqT P t = some (.cells n l)) : leaves P 20 t 0 = some l ∧ aggT P t = some (some n) ∧ P.eqGuardType P.depth t = false := by
  unfold eqT at h
  cases hu : P.underlying t with
  | none => simp [hu] at h
  | some d =>
    cases d <;> simp only [hu] at h <;> (try (cases h; done))
    all_goals
      split at h
      · cases h
      · rename_i hg
        split at h
        · rename_i n2 l2 hn hl
          cases h
          exact ⟨hl, by simp [aggT, hu, hn], by simpa using hg⟩
        · cases h
theorem key_ck {t : TypeId} {D : EqD} (h : keyT P t = some D) {k k' : Value} (hk : keyOk D k = true) (hv : VR ρ w k k') (em : Bool) : (Instr.checkKey em 10000 t k').run P w = .ok () w := by
  rcases keyT_inv h with ⟨q, rfl, hq⟩ | ⟨n, l, rfl, hn, hl, hr, hg, _, _⟩
  · exact ck_prim hq em 9999 k'
  · cases k <;> simp only [keyOk] at hk <;> (try (cases hk; done))
    rename_i xs
    obtain ⟨xs', rfl, hx, _⟩ := hv.of_agg
    simp only [Bool.and_eq_true, List.all_eq_true] at hk
    refine ck_leaves xs'.toList em 20 t 0 l hl 10000 (by omega) _ (view_whole hg) fun o ho => ?_
    have := hk.2 o ho
    split at this
    · rename_i v hv2
      obtain ⟨v', h1, _⟩ := hx.get hv2
      exact ⟨v', h1⟩
    · cases this
theorem eqv_key {t : TypeId} {D : EqD} (h : keyT P t = some D) {a a' b b' : Value} {r : Bool} (ha : VR ρ w a a') (hb : VR ρ w b b') (he : eqv D a b = some r) : (Op.equal t a' b').run P w = .ok r w := by
  rcases keyT_inv h with ⟨q, rfl, hq⟩ | ⟨n, l, rfl, hn, hl, hr, hg, _, _⟩
  · simp only [eqv] at he
    rw [ha.prim he, hb.prim2 he]
    exact eq_prim he hq
  · cases a <;> simp only [eqv] at he <;> (try (cases he; done))
    cases b <;> simp only [eqv] at he <;> (try (cases he; done))
    split at he
    · obtain ⟨xs', rfl, hx, _⟩ := ha.of_agg
      obtain ⟨ys', rfl, hy, _⟩ := hb.of_agg
      exact eq_leaves xs'.toList ys'.toList 20 t 0 l hl 10000 (by omega) _ _ r (view_whole hg) (view_whole hg) (eqcells_vr hx hy l r he)
    · cases he
def ER (ρ : Rho) (w : World) (es : List (Value × Value × Nat)) (es' : List MapEntry) : Prop := es.length = es'.length ∧ ∀ (i : Nat) (k v : Value) (a : Nat), es[i]? = some (k, v, a) → ∃ e : MapEntry, es'[i]? = some e ∧ VR ρ w k e.key ∧ VR ρ w v e.val ∧ e.born = a
theorem ER.tail {x : Value × Value × Nat} {es : List (Value × Value × Nat)} {es' : List MapEntry} (h : ER ρ w (x :: es) es') : ∃ e r, es' = e :: r ∧ VR ρ w x.1 e.key ∧ VR ρ w x.2.1 e.val ∧ ER ρ w es r := by
  obtain ⟨e, h1, h2, h3, h4⟩ := h.2 0 x.1 x.2.1 x.2.2 rfl
  cases es' with
  | nil => cases h1
  | cons e2 r =>
    simp only [List.getElem?_cons_zero, Option.some.injEq] at h1
    subst h1
    exact ⟨_, _, rfl, h2, h3, by simpa using h.1, fun i k v a hi => h.2 (i + 1) k v a (by simpa using hi)⟩
def FR (ρ : Rho) (w : World) : Option (Nat × Value) → Option (Nat × Value) → Prop
  | none, none => True
  | some (i, v), some (j, v') => i = j ∧ VR ρ w v v'
  | _, _ => False
theorem find_ask {t : TypeId} {D : EqD} (h : keyT P t = some D) {k k' : Value} (hk : VR ρ w k k') : ∀ (es : List (Value × Value × Nat)) (es' : List MapEntry) (i : Nat) (r : Option (Nat × Value)), ER ρ w es es' → findL D k es i = some r →
    ∃ r', (Instr.findAsking t k' es' i).run P w = .ok r' w ∧ FR ρ w r r'
  | [], es', i, r, he, hf => by
    simp only [findL] at hf; cases hf
    have : es' = [] := List.length_eq_zero_iff.1 (by have := he.1; simpa using this.symm)
    subst this
    exact ⟨none, by simp [Instr.findAsking], trivial⟩
  | (k2, v, a) :: es, es', i, r, he, hf => by
    obtain ⟨e, es2, rfl, h1, h2, h3⟩ := he.tail
    simp only [findL] at hf
    split at hf
    · rename_i hq
      cases hf
      have := eqv_key (w := w) h hk h1 hq
      exact ⟨some (i, e.val), by simp [Instr.findAsking, this], rfl, h2⟩
    · rename_i hq
      obtain ⟨r', k1, k2⟩ := find_ask h hk es es2 (i + 1) r h3 hf
      have := eqv_key (w := w) h hk h1 hq
      exact ⟨r', by simp [Instr.findAsking, this, k1], k2⟩
    · cases hf
theorem find_now {t : TypeId} {q : PK} (hq : PKof P q t) {d : TypeDesc} (hd : P.underlying t = some d) {k k' : Value} (hk : VR ρ w k k') : ∀ (es : List (Value × Value × Nat)) (es' : List MapEntry) (i : Nat) (r : Option (Nat × Value)), ER ρ w es es' → findL (.prim q) k es i = some r →
    ∃ r', Instr.findNow d k' es' i = some r' ∧ FR ρ w r r'
  | [], es', i, r, he, hf => by
    simp only [findL] at hf; cases hf
    have : es' = [] := List.length_eq_zero_iff.1 (by have := he.1; simpa using this.symm)
    subst this
    exact ⟨none, rfl, trivial⟩
  | (k2, v, a) :: es, es', i, r, he, hf => by
    obtain ⟨e, es2, rfl, h1, h2, h3⟩ := he.tail
    have hsame : ∀ b, veq0 q k k2 = some b → Instr.sameNow d k' e.key = some b := by
      intro b hb
      rw [hk.prim hb, VR.prim2 h1 hb]
      rcases veq0_inv hb with ⟨e1, x, y, rfl, rfl, rfl⟩ | ⟨e1, z, x, y, rfl, rfl, rfl⟩ | ⟨e1, x, y, rfl, rfl, rfl⟩ <;> rcases hq with ⟨e2, hu⟩ | ⟨e2, q2, hu⟩ | ⟨e2, hu⟩ <;> (first | (rw [e1] at e2; cases e2; done) | skip) <;> (rw [hd] at hu; cases hu)
      · rfl
      · simp [Instr.sameNow]
      · rfl
    simp only [findL, eqv] at hf
    split at hf
    · rename_i hb
      cases hf
      exact ⟨some (i, e.val), by simp [Instr.findNow, hsame _ hb], rfl, h2⟩
    · rename_i hb
      obtain ⟨r', k1, k2⟩ := find_now hq hd hk es es2 (i + 1) r h3 hf
      exact ⟨r', by simp [Instr.findNow, hsame _ hb, k1], k2⟩
    · cases hf
theorem find_key {t : TypeId} {D : EqD} (h : keyT P t = some D) {k k' : Value} (hk : VR ρ w k k') {es : List (Value × Value × Nat)} {es' : List MapEntry} {r : Option (Nat × Value)} (he : ER ρ w es es') (hf : findL D k es 0 = some r) :
    ∃ r', (Instr.findKey t k' es').run P w = .ok r' w ∧ FR ρ w r r' := by
  rcases keyT_inv h with ⟨q, rfl, hq⟩ | ⟨n, l, rfl, hn, hl, hr, hg, hw, _⟩
  · obtain ⟨d, hd⟩ : ∃ d, P.underlying t = some d := by rcases hq with ⟨_, hu⟩ | ⟨_, _, hu⟩ | ⟨_, hu⟩ <;> exact ⟨_, hu⟩
    obtain ⟨r', h1, h2⟩ := find_now hq hd hk es es' 0 r he hf
    exact ⟨r', by simp [Instr.findKey, run_under hd, h1], h2⟩
  · obtain ⟨r', h1, h2⟩ := find_ask h hk es es' 0 r he hf
    exact ⟨r', by rw [run_findKey_eq w hw]; exact h1, h2⟩
end
end
end Go.Proofs.Ytlidnionbofkaaa.Hm
namespace Go.Proofs.Ytlidnionbofkaaa.Hm
noncomputable section
open Go Go.RowKit
set_option linter.all false
set_option linter.unusedSimpArgs false
def Good (lo n0 : Nat) (w0 : World) (P : Program) (ρ : Rho) (h : Heap) (w : World) (s : Sem Next) (v : Value) (h' : Heap) : Prop :=
  ∃ v' w' ρ', (s.run P w = .ok (.value v') w' ∨ (s.run P w = .ok .skip w' ∧ v' = undef)) ∧ Inv lo n0 w0 ρ' h' w' ∧ Ext ρ ρ' h h' w w' ∧ VR ρ' w' v v'
section
variable {lo n0 : Nat} {w0 : World} {ρ : Rho} {h : Heap} {w : World} {P : Program}
theorem good_v {s : Sem Value} {v v' : Value} {h' : Heap} {w' : World} {ρ' : Rho} (hs : s.run P w = .ok v' w') (hI : Inv lo n0 w0 ρ' h' w') (hE : Ext ρ ρ' h h' w w') (hV : VR ρ' w' v v') :
    Good lo n0 w0 P ρ h w (do pure (.value (← s))) v h' := ⟨v', w', ρ', .inl (by simp [hs]), hI, hE, hV⟩
theorem good_p (hI : Inv lo n0 w0 ρ h w) {s : Sem Value} {v v' : Value} (hs : s.run P w = .ok v' w) (hV : VR ρ w v v') : Good lo n0 w0 P ρ h w (do pure (.value (← s))) v h :=
  good_v hs hI (Ext.refl _ _ _) hV
theorem good_u {s : Sem Unit} {h' : Heap} {w' : World} {ρ' : Rho} (hs : s.run P w = .ok () w') (hI : Inv lo n0 w0 ρ' h' w') (hE : Ext ρ ρ' h h' w w') :
    Good lo n0 w0 P ρ h w (do s; pure .skip) undef h' := ⟨undef, w', ρ', .inr ⟨by simp [hs], rfl⟩, hI, hE, VR.undef _ _⟩
theorem stringOp_val {op : BinOp} {a b : ByteArray} {v : Value} (e : pureRun (Op.stringOp op a b) = some v) : VR ρ w v v := by
  cases op <;> simp only [Op.stringOp] at e <;> first
    | (cases e; exact .bool _)
    | (cases e; done)
    | (split at e <;> cases e; exact .str _)
theorem strOp_ok (op : BinOp) (a b : ByteArray) : strOp op a b = pureRun (Op.stringOp op a b) := by
  have h : (a.toList == b.toList) = decide (a.data.toList = b.data.toList) := by
    rw [ByteArray.toList_eq, ByteArray.toList_eq, Bool.eq_iff_iff]; simp
  cases op <;> first
    | rfl
    | (have e : pureRun (Op.stringOp .eql a b) = some (.bool (a.toList == b.toList)) := rfl
       rw [e, h]; rfl)
    | (have e : pureRun (Op.stringOp .neq a b) = some (.bool (!(a.toList == b.toList))) := rfl
       rw [e, h]; rfl)
theorem good_bin {op : BinOp} {x y v x' y' : Value} (hx : VR ρ w x x') (hy : VR ρ w y y') (e : bin op x y = some v) (xt : TypeId) (ox oy : Operand) :
    (do eqGuard op xt ox oy x' y'; binOp op xt x' y').run P w = .ok v w ∧ VR ρ w v v := by
  have hg : ∀ {a b : Value}, (∀ cs, a ≠ .agg cs) → a ≠ .nilIface → (eqGuard op xt ox oy a b).run P w = .ok () w := by
    intro a b h1 h2
    cases a <;> first | exact absurd rfl h2 | exact absurd rfl (h1 _) | (cases op <;> simp [eqGuard])
  cases x <;> cases y <;> (try (cases op <;> cases e; done))
  · rename_i k a k' b
    cases hx; cases hy
    rw [Sem.run_bind, hg (fun _ => by simp) (by simp)]
    simp only [Result.andThen_ok]
    cases op <;> simp only [bin, binOp] at e ⊢ <;> first
      | (split at e
         · cases e
         · rename_i hk; rw [if_neg hk]; refine ⟨pureRun_ok e, ?_⟩
           simp only [Op.intArith, Op.intDiv, Op.intBits, Op.intCmp] at e
           first
             | (cases e; first | exact .int _ _ | exact .bool _)
             | (split at e
                · cases e
                · cases e; exact .int _ _))
      | (refine ⟨pureRun_ok e, ?_⟩; simp only [Op.shift] at e; split at e
         · cases e
         · cases e; exact .int _ _)
  · rename_i a b
    cases hx; cases hy
    rw [Sem.run_bind, hg (fun _ => by simp) (by simp)]
    simp only [Result.andThen_ok]
    have e2 : pureRun (Op.stringOp op a b) = some v := by rw [← strOp_ok]; cases op <;> exact e
    refine ⟨?_, stringOp_val e2⟩
    have : binOp op xt (.string a) (.string b) = Op.stringOp op a b := by cases op <;> rfl
    rw [this]; exact pureRun_ok e2
end
end
end Go.Proofs.Ytlidnionbofkaaa.Hm
namespace Go.Proofs.Ytlidnionbofkaaa.Hm
noncomputable section
open Go Go.RowKit
set_option linter.all false
set_option linter.unusedSimpArgs false
section
variable {lo n0 : Nat} {w0 : World} {ρ : Rho} {h : Heap} {w : World} {P : Program}
theorem nileq_vr {k : NK} {x y x' y' : Value} {r : Bool} (hx : VR ρ w x x') (hy : VR ρ w y y') (e : nileq k x y = some r) : nileq k x' y' = some r := by
  cases hx <;> cases hy <;> first | exact e | (cases k <;> first | exact e | (cases e; done))
theorem nil_run {k : NK} {t : TypeId} {x y : Value} {r : Bool} (h : eqT P t = some (.nil k)) (e : nileq k x y = some r) (n : Nat) : (Op.equalIn (n + 1) t x y).run P w = .ok r w := by
  have hu : (k = .slice ∧ ∃ z, P.underlying t = some (.slice z)) ∨ (k = .map ∧ ∃ z u, P.underlying t = some (.map z u)) ∨ (k = .func ∧ ∃ a b c, P.underlying t = some (.func a b c)) ∨ (k = .ptr ∧ ∃ z, P.underlying t = some (.pointer z)) ∨ (k = .iface ∧ ∃ z, P.underlying t = some (.interface z)) := by
    unfold eqT at h
    cases hu : P.underlying t with
    | none => simp [hu] at h
    | some d =>
      cases d <;> simp only [hu] at h <;> (try (cases h; done))
      all_goals first
        | (cases h; simp; done)
        | (split at h <;> (try (cases h; done)) <;> split at h <;> cases h)
  unfold nileq at e
  split at e <;> rcases hu with ⟨h1, z, hu⟩ | ⟨h1, z, u, hu⟩ | ⟨h1, a, b, c, hu⟩ | ⟨h1, z, hu⟩ | ⟨h1, z, hu⟩ <;> first | (cases h1; done) | (cases e; done) | (cases e; simp [Op.equalIn, run_under hu])
end
end
end Go.Proofs.Ytlidnionbofkaaa.Hm
namespace Go.Proofs.Ytlidnionbofkaaa.Hm
noncomputable section
open Go Go.RowKit
set_option linter.all false
set_option linter.unusedSimpArgs false
section
variable {lo n0 : Nat} {w0 : World} {ρ : Rho} {h : Heap} {w : World} {P : Program}
theorem eqGuard_ok {op : BinOp} {t : TypeId} {ox oy : Operand} {a b : Value} (h1 : ∀ cs, a ≠ .agg cs) (h2 : a ≠ .nilIface ∨ b ≠ .nilIface) : (eqGuard op t ox oy a b).run P w = .ok () w := by
  cases a <;> first | exact absurd rfl (h1 _) | (cases op <;> simp [eqGuard]; done) | (cases b <;> first | (rcases h2 with h2 | h2 <;> exact absurd rfl h2) | (cases op <;> simp [eqGuard]; done))
theorem run_eq {neg : Bool} {t : TypeId} {ox oy : Operand} {x y : Value} {r : Bool} (hg : (eqGuard (if neg then .neq else .eql) t ox oy x y).run P w = .ok () w)
    (hb : binOp (if neg then .neq else .eql) t x y = if neg then (do pure (.bool (!(← Op.equal t x y)))) else (do pure (.bool (← Op.equal t x y)))) (he : (Op.equal t x y).run P w = .ok r w) :
    (do eqGuard (if neg then .neq else .eql) t ox oy x y; binOp (if neg then .neq else .eql) t x y).run P w = .ok (.bool (if neg then !r else r)) w := by
  rw [Sem.run_bind, hg]
  simp only [Result.andThen_ok, hb]
  cases neg <;> simp [he]
theorem good_eq {neg : Bool} {t : TypeId} {D : EqD} {ox oy : Operand} (hD : eqT P t = some D) (hcst : okEq D ox oy = true) (hprim : ∀ k, D = .prim k → P.underlying t = some .bool) {x y x' y' : Value} {r : Bool} (hx : VR ρ w x x') (hy : VR ρ w y y') (e : eqv D x y = some r) :
    (do eqGuard (if neg then .neq else .eql) t ox oy x' y'; binOp (if neg then .neq else .eql) t x' y').run P w = .ok (.bool (if neg then !r else r)) w := by
  cases D with
  | prim k =>
    have hu := hprim k rfl
    simp only [eqv] at e
    rw [hx.prim e, hy.prim2 e]
    have hk : k = .bool := by
      unfold eqT at hD; rw [hu] at hD; cases hD; rfl
    subst hk
    rcases veq0_inv e with ⟨_, a, b, rfl, rfl, rfl⟩ | ⟨e1, _⟩ | ⟨e1, _⟩
    · refine run_eq (eqGuard_ok (fun _ => by simp) (.inl (by simp))) ?_ (eq_prim e (.inl ⟨rfl, hu⟩))
      cases neg <;> rfl
    · cases e1
    · cases e1
  | nil k =>
    simp only [eqv] at e
    have e2 := nileq_vr hx hy e
    have h3 := nil_run (P := P) (w := w) hD e2 9999
    have hshape : (eqGuard (if neg then .neq else .eql) t ox oy x' y').run P w = .ok () w ∧ (∀ (neg : Bool), binOp (if neg then .neq else .eql) t x' y' = if neg then (do pure (.bool (!(← Op.equal t x' y')))) else (do pure (.bool (← Op.equal t x' y')))) := by
      unfold nileq at e2
      split at e2 <;> first
        | (cases e2; done)
        | (refine ⟨eqGuard_ok (fun _ => by simp) ?_, fun neg => by cases neg <;> rfl⟩; simp; done)
        | (refine ⟨?_, fun neg => by cases neg <;> rfl⟩; cases ox <;> cases oy <;> cases neg <;> first | (simp [okEq, isConst] at hcst; done) | (simp [eqGuard]; done))
    exact run_eq hshape.1 (hshape.2 neg) h3
  | cells n l =>
    obtain ⟨hl, hg, hgt⟩ := eqT_cells hD
    cases x <;> simp only [eqv] at e <;> (try (cases e; done))
    cases y <;> simp only [eqv] at e <;> (try (cases e; done))
    split at e
    · obtain ⟨xs', rfl, hx', _⟩ := hx.of_agg
      obtain ⟨ys', rfl, hy', _⟩ := hy.of_agg
      have h3 := eq_leaves (P := P) (w := w) xs'.toList ys'.toList 20 t 0 l hl 10000 (by omega) _ _ r (view_whole hg) (view_whole hg) (eqcells_vr hx' hy' l r e)
      refine run_eq (run_eqGuard_agg w _ t ox oy xs' ys' hgt) ?_ h3
      cases neg <;> rfl
    · cases e
theorem good_un {op : UnOp} {x x' v : Value} (hx : VR ρ w x x') (e : pureRun (Op.unary op x) = some v) : (Op.unary op x').run P w = .ok v w ∧ VR ρ w v v := by
  cases x <;> cases op <;> first
    | (cases e; done)
    | (cases hx; done)
    | (cases hx; refine ⟨pureRun_ok e, ?_⟩; simp only [Op.unary, Op.intArith, Op.intBits] at e; cases e; first | exact .int _ _ | exact .bool _)
    | (rename_i a; cases a <;> cases e)
theorem seen_run {x x' : Option Value} (hx : match x, x' with | none, none => True | some a, some b => VR ρ w a b | _, _ => False) {d m : Nat} (e : seen x d = some m) :
    (x = none ∧ x' = none ∧ m = d) ∨ ∃ k i, x = some (.int k i) ∧ x' = some (.int k i) ∧ 0 ≤ i ∧ i.toNat = m := by
  cases x with
  | none => cases x' with
    | none => cases e; exact .inl ⟨rfl, rfl, rfl⟩
    | some b => exact hx.elim
  | some a =>
    cases x' with
    | none => exact hx.elim
    | some b =>
      cases a <;> simp only [seen] at e <;> (try (cases e; done))
      split at e
      · cases e; cases hx; exact .inr ⟨_, _, rfl, rfl, by assumption, rfl⟩
      · cases e
theorem run_bound {k : IntKind} {i : Int} {y : Nat} {c : BoundsCode} (h0 : 0 ≤ i) (h1 : i.toNat ≤ y) : (Instr.sliceBound (.int k i) y c).run P w = .ok i.toNat w := by
  unfold Instr.sliceBound
  rw [Sem.run_bind]
  simp only [asIntOf, Sem.run_pure, Result.andThen_ok]
  rw [if_pos ⟨h0, by omega⟩]; rfl
theorem run_bounds {isS : Bool} {len cap cap' m hh l : Nat} {lo' hi' mx' lo2 hi2 mx2 : Option Value}
    (hl : (lo' = none ∧ lo2 = none ∧ l = 0) ∨ ∃ k i, lo' = some (.int k i) ∧ lo2 = some (.int k i) ∧ 0 ≤ i ∧ i.toNat = l)
    (hh' : (hi' = none ∧ hi2 = none ∧ hh = len) ∨ ∃ k i, hi' = some (.int k i) ∧ hi2 = some (.int k i) ∧ 0 ≤ i ∧ i.toNat = hh)
    (hm : (mx' = none ∧ mx2 = none ∧ m = cap) ∨ ∃ k i, mx' = some (.int k i) ∧ mx2 = some (.int k i) ∧ 0 ≤ i ∧ i.toNat = m) (hmx : mx' = none ∨ hi' ≠ none) (h1 : m ≤ cap) (h2 : hh ≤ m) (h3 : l ≤ hh) (hc : cap ≤ cap') :
    (Instr.sliceBounds isS len cap' lo2 hi2 mx2).run P w = .ok (l, hh, if mx2.isSome then m else cap') w := by
  unfold Instr.sliceBounds
  rcases hm with ⟨rfl, rfl, rfl⟩ | ⟨k, i, rfl, rfl, hi0, rfl⟩
  · rcases hh' with ⟨rfl, rfl, rfl⟩ | ⟨k2, i2, rfl, rfl, hi2, rfl⟩ <;> rcases hl with ⟨rfl, rfl, rfl⟩ | ⟨k3, i3, rfl, rfl, hi3, rfl⟩ <;>
      simp [run_bound, *, Nat.le_trans h2 hc]
  · rcases hmx with hmx | hmx
    · cases hmx
    · rcases hh' with ⟨rfl, rfl, rfl⟩ | ⟨k2, i2, rfl, rfl, hi2, rfl⟩
      · exact absurd rfl hmx
      · have := Nat.le_trans h1 hc
        rcases hl with ⟨rfl, rfl, rfl⟩ | ⟨k3, i3, rfl, rfl, hi3, rfl⟩ <;> simp [run_bound, *]
def OR (ρ : Rho) (w : World) : Option Value → Option Value → Prop
  | none, none => True
  | some a, some b => VR ρ w a b
  | _, _ => False
theorem slice_core {esz b o len cap len' cap' : Nat} {a' : Addr} {e : Option Nat} {lo1 hi1 mx1 lo2 hi2 mx2 : Option Value} {v : Value} (hV : VR ρ w (.slice (some ⟨b, o, e⟩) len cap) (.slice (some a') len' cap'))
    (hlo : OR ρ w lo1 lo2) (hhi : OR ρ w hi1 hi2) (hmx : OR ρ w mx1 mx2) (hm : mx1 = none ∨ hi1 ≠ none) (hv : sliceOf esz (.slice (some ⟨b, o, e⟩) len cap) lo1 hi1 mx1 = some v) (isS : Bool) :
    ∃ l hh m, (Instr.sliceBounds isS len' cap' lo2 hi2 mx2).run P w = .ok (l, hh, m) w ∧ VR ρ w v (.slice (some (if m = l then a' else a'.add (l * esz))) (hh - l) (m - l)) := by
  unfold sliceOf at hv
  simp only at hv
  split at hv
  · cases hv
  · rename_i m hm1
    split at hv
    · rename_i hmc
      split at hv
      · rename_i hh l hh1 hl1
        split at hv
        · rename_i hle
          have k1 := seen_run (ρ := ρ) (w := w) (x := mx1) (x' := mx2) (by cases mx1 <;> cases mx2 <;> exact hmx) hm1
          have k2 := seen_run (ρ := ρ) (w := w) (x := hi1) (x' := hi2) (by cases hi1 <;> cases hi2 <;> exact hhi) hh1
          have k3 := seen_run (ρ := ρ) (w := w) (x := lo1) (x' := lo2) (by cases lo1 <;> cases lo2 <;> exact hlo) hl1
          cases hV with
          | sle _ r s0 _ _ _ hρ =>
            refine ⟨l, hh, _, run_bounds k3 k2 k1 hm hmc hle.1 hle.2 (Nat.le_refl _), ?_⟩
            have hmm : (if mx2.isSome = true then m else cap) = m := by
              rcases k1 with ⟨_, rfl, rfl⟩ | ⟨_, _, _, rfl, _⟩ <;> simp
            rw [hmm]
            cases hv
            by_cases hml : m = l
            · rw [if_pos hml, if_pos hml]; exact .sle _ _ _ _ _ _ hρ
            · rw [if_neg hml, if_neg hml]; rw [add_off, Nat.add_assoc]; exact .sle _ _ _ _ _ _ hρ
          | sez _ _ _ =>
            have : m = 0 ∧ hh = 0 ∧ l = 0 := by omega
            obtain ⟨rfl, rfl, rfl⟩ := this
            refine ⟨0, 0, _, run_bounds k3 k2 k1 hm hmc hle.1 hle.2 (Nat.le_refl _), ?_⟩
            have hmm : (if mx2.isSome = true then 0 else 0) = 0 := by simp
            rw [hmm]
            cases hv
            simp only [if_true]
            exact .sez _ _ _
          | sli _ r s0 _ _ _ _ z hρ hc hr =>
            simp only at hv
            split at hv
            · rename_i hz
              subst hz
              rcases k1 with ⟨rfl, rfl, rfl⟩ | ⟨k, i, rfl, rfl, hi0, hi1'⟩
              · refine ⟨l, hh, _, run_bounds k3 k2 (.inl ⟨rfl, rfl, rfl⟩) hm hmc hle.1 hle.2 hc, ?_⟩
                simp only [Option.isSome_none, Bool.false_eq_true, if_false]
                cases hv
                by_cases hml : cap' = l
                · rw [if_pos hml]
                  have h1 : cap' - l = 0 := by omega
                  have h2 : hh - l = 0 := by omega
                  have h3 : m - l = 0 := by omega
                  rw [h1, h2, h3]; exact .slz _ _ _ _ _ _ hρ
                · rw [if_neg hml, add_off, Nat.add_assoc]
                  refine .sli _ _ _ _ _ _ _ _ hρ (by omega) ?_
                  have : l * z + (cap' - l) * z = cap' * z := by rw [← Nat.add_mul]; congr 1; omega
                  omega
              · refine ⟨l, hh, _, run_bounds k3 k2 (.inr ⟨k, i, rfl, rfl, hi0, hi1'⟩) hm hmc hle.1 hle.2 hc, ?_⟩
                simp only [Option.isSome_some, if_true]
                cases hv
                by_cases hml : m = l
                · rw [if_pos hml, if_pos hml]; exact .sle _ _ _ _ _ _ hρ
                · rw [if_neg hml, if_neg hml, add_off, Nat.add_assoc]; exact .sle _ _ _ _ _ _ hρ
            · cases hv
          | slz _ _ z _ s0 _ hρ =>
            have : m = 0 ∧ hh = 0 ∧ l = 0 := by omega
            obtain ⟨rfl, rfl, rfl⟩ := this
            refine ⟨0, 0, _, run_bounds k3 k2 k1 hm hmc hle.1 hle.2 (Nat.le_refl _), ?_⟩
            have hmm : (if mx2.isSome = true then 0 else 0) = 0 := by simp
            rw [hmm]
            simp only [if_true] at hv ⊢
            split at hv
            · split at hv
              · cases hv; exact .sez _ _ _
              · cases hv; exact .slz _ _ _ _ _ _ hρ
            · cases hv
        · cases hv
      · cases hv
    · cases hv
end
end
end Go.Proofs.Ytlidnionbofkaaa.Hm
namespace Go.Proofs.Ytlidnionbofkaaa.Hm
noncomputable section
open Go Go.RowKit
set_option linter.all false
set_option linter.unusedSimpArgs false
section
variable {lo n0 : Nat} {w0 : World} {ρ : Rho} {h h' : Heap} {w : World} {P : Program} {σ : List Value} {e : Operand → Value} {dst : Option Tmp} {type : TypeId} {pos : String} {after : Array Edge} {guard : Option (Nat × Bool)} {hop : HOp} {v : Value}
theorem okOps_mem {xs : List Operand} (h : okOps xs = true) {x : Operand} (hx : x ∈ xs) : okOp x = true := List.all_eq_true.1 h x hx
theorem VR.of_int {k : IntKind} {n : Int} {y : Value} (h : VR ρ w (.int k n) y) : y = .int k n := by cases h; rfl
theorem VR.of_bool {b : Bool} {y : Value} (h : VR ρ w (.bool b) y) : y = .bool b := by cases h; rfl
theorem VR.of_str {s : ByteArray} {y : Value} (h : VR ρ w (.string s) y) : y = .string s := by cases h; rfl
theorem str_len (s : ByteArray) : s.data.toList.length = s.size := by rw [Array.length_toList]; rfl
theorem g_mv {x : Operand} (hI : Inv lo n0 w0 ρ h w) (hσ : ∀ x, okOp x = true → VR ρ w (ev σ x) (e x)) (hc : (if okOp x then some (HOp.mv x) else none) = some hop) (hx : xop lo σ h hop = some (v, h')) :
    Good lo n0 w0 P ρ h w (pure (.value (e x))) v h' := by
  split at hc
  · rename_i ho
    cases hc; simp only [xop, xopE] at hx; cases hx
    exact ⟨_, w, ρ, .inl rfl, hI, Ext.refl _ _ _, hσ x ho⟩
  · cases hc
theorem g_pick {a b c : Operand} (hI : Inv lo n0 w0 ρ h w) (hσ : ∀ x, okOp x = true → VR ρ w (ev σ x) (e x)) (hc : compOp P type (.pick c a b) = some hop) (hx : xop lo σ h hop = some (v, h')) :
    Good lo n0 w0 P ρ h w (execOp e ⟨dst, .pick c a b, type, pos, after, guard⟩) v h' := by
  simp only [compOp] at hc
  split at hc
  · rename_i ho
    cases hc; simp only [xop, xopE] at hx
    have hb := hσ c (okOps_mem ho (by simp))
    split at hx
    · rename_i t ht
      rw [ht] at hb
      cases hx
      refine ⟨if t then e a else e b, w, ρ, .inl ?_, hI, Ext.refl _ _ _, ?_⟩
      · have : e c = .bool t := by
          have := hσ c (okOps_mem ho (by simp)); rw [ht] at this; exact this.of_bool
        simp [execOp, this, asBool]
      · cases t
        · exact hσ b (okOps_mem ho (by simp))
        · exact hσ a (okOps_mem ho (by simp))
    · cases hx
  · cases hc
theorem g_bin {op : BinOp} {xt yt : TypeId} {x y : Operand} (hI : Inv lo n0 w0 ρ h w) (hσ : ∀ x, okOp x = true → VR ρ w (ev σ x) (e x)) (hc : compOp P type (.binOp op xt x y yt) = some hop) (hx : xop lo σ h hop = some (v, h')) :
    Good lo n0 w0 P ρ h w (execOp e ⟨dst, .binOp op xt x y yt, type, pos, after, guard⟩) v h' := by
  simp only [compOp] at hc
  split at hc
  · rename_i ho
    have vx := hσ x (okOps_mem ho (by simp))
    have vy := hσ y (okOps_mem ho (by simp))
    have hbin : hop = .bin op x y → Good lo n0 w0 P ρ h w (execOp e ⟨dst, .binOp op xt x y yt, type, pos, after, guard⟩) v h' := by
      rintro rfl
      simp only [xop, xopE] at hx
      obtain ⟨r, hr, e2⟩ := Option.map_eq_some_iff.1 hx
      cases e2
      obtain ⟨k1, k2⟩ := good_bin (P := P) vx vy hr xt x y
      exact good_p hI k1 k2
    have heq : ∀ neg : Bool, op = (if neg then .neq else .eql) → (∀ q, P.underlying xt ≠ some (.int q)) → P.underlying xt ≠ some .string → (eqTC P xt x y).map (HOp.eq neg · x y) = some hop → Good lo n0 w0 P ρ h w (execOp e ⟨dst, .binOp op xt x y yt, type, pos, after, guard⟩) v h' := by
      rintro neg rfl h1 h2 h3
      obtain ⟨D, hDC, rfl⟩ := Option.map_eq_some_iff.1 h3
      obtain ⟨hD, hcst⟩ := eqTC_inv hDC
      simp only [xop, xopE] at hx
      obtain ⟨r, hr, e2⟩ := Option.map_eq_some_iff.1 hx
      cases e2
      have hprim : ∀ k, D = .prim k → P.underlying xt = some .bool := by
        rintro k rfl
        unfold eqT at hD
        cases hu : P.underlying xt with
        | none => simp [hu] at hD
        | some d =>
          cases d <;> simp only [hu] at hD <;> first
            | rfl
            | (cases hD; done)
            | exact absurd hu (h1 _)
            | exact absurd hu h2
            | (split at hD <;> (try (cases hD; done)) <;> split at hD <;> cases hD)
      exact good_p hI (good_eq hD hcst hprim vx vy hr) (.bool _)
    split at hc
    · split at hc
      · exact hbin (by cases hc; rfl)
      · exact hbin (by cases hc; rfl)
      · rename_i h1 h2; exact heq false rfl (fun q => h1 q) h2 hc
    · split at hc
      · exact hbin (by cases hc; rfl)
      · exact hbin (by cases hc; rfl)
      · rename_i h1 h2; exact heq true rfl (fun q => h1 q) h2 hc
    · exact hbin (by cases hc; rfl)
  · cases hc
theorem g_un {op : UnOp} {xt : TypeId} {x : Operand} (hI : Inv lo n0 w0 ρ h w) (hσ : ∀ x, okOp x = true → VR ρ w (ev σ x) (e x)) (hc : compOp P type (.unOp op xt x) = some hop) (hx : xop lo σ h hop = some (v, h')) :
    Good lo n0 w0 P ρ h w (execOp e ⟨dst, .unOp op xt x, type, pos, after, guard⟩) v h' := by
  simp only [compOp] at hc
  split at hc
  · rename_i ho
    cases hc; simp only [xop, xopE] at hx
    obtain ⟨r, hr, e2⟩ := Option.map_eq_some_iff.1 hx
    cases e2
    obtain ⟨k1, k2⟩ := good_un (P := P) (hσ x ho) hr
    exact good_p hI k1 k2
  · cases hc
theorem g_conv {s d : TypeId} {x : Operand} (hI : Inv lo n0 w0 ρ h w) (hσ : ∀ x, okOp x = true → VR ρ w (ev σ x) (e x)) (hc : compOp P type (.convert s d x) = some hop) (hx : xop lo σ h hop = some (v, h')) :
    Good lo n0 w0 P ρ h w (execOp e ⟨dst, .convert s d x, type, pos, after, guard⟩) v h' := by
  simp only [compOp] at hc
  split at hc
  · rename_i ho
    split at hc
    · rename_i k k2 h1 h2
      cases hc; simp only [xop, xopE] at hx
      have vx := hσ x ho
      split at hx
      · rename_i q n hq
        cases hx
        rw [hq] at vx
        have hex : e x = .int q n := vx.of_int
        refine good_p hI (s := convert s d (e x)) ?_ (.int _ _)
        rw [hex]
        simp [convert, run_under h1, run_under h2, Conv.intToInt]
      · cases hx
    · rename_i k h1 h2
      cases hc; simp only [xop, xopE] at hx
      have vx := hσ x ho
      split at hx
      · rename_i q n hq
        cases hx
        rw [hq] at vx
        have hex : e x = .int q n := vx.of_int
        refine good_p hI (s := convert s d (e x)) ?_ (.str _)
        rw [hex]
        simp [convert, run_under h1, run_under h2, Conv.intToString]
      · cases hx
    · cases hc
  · cases hc
theorem g_nilchk {x : Operand} (hI : Inv lo n0 w0 ρ h w) (hσ : ∀ x, okOp x = true → VR ρ w (ev σ x) (e x)) (hc : compOp P type (.nilCheck x) = some hop) (hx : xop lo σ h hop = some (v, h')) :
    Good lo n0 w0 P ρ h w (execOp e ⟨dst, .nilCheck x, type, pos, after, guard⟩) v h' := by
  simp only [compOp] at hc
  split at hc
  · rename_i ho
    cases hc; simp only [xop, xopE] at hx
    have vx := hσ x ho
    split at hx
    · rename_i a ha
      cases hx
      rw [ha] at vx
      obtain ⟨a', ha'⟩ : ∃ a', e x = .pointer (some a') := by
        generalize e x = y at vx; cases vx; exact ⟨_, rfl⟩
      refine ⟨e x, w, ρ, .inl ?_, hI, Ext.refl _ _ _, by rw [ha'] at vx ⊢; exact vx⟩
      simp [execOp, ha']
    · cases hx
  · cases hc
theorem ptr_inv {b o : Nat} {y : Value} (h : VR ρ w (.pointer (some ⟨b, o, none⟩)) y) : ∃ r s, y = .pointer (some ⟨r, s + o, none⟩) ∧ ρ b = some (r, s) := by
  cases h; exact ⟨_, _, rfl, by assumption⟩
theorem g_faddr {s : TypeId} {x : Operand} {f : Nat} (hI : Inv lo n0 w0 ρ h w) (hσ : ∀ x, okOp x = true → VR ρ w (ev σ x) (e x)) (hc : compOp P type (.fieldAddr s x f) = some hop) (hx : xop lo σ h hop = some (v, h')) :
    Good lo n0 w0 P ρ h w (execOp e ⟨dst, .fieldAddr s x f, type, pos, after, guard⟩) v h' := by
  simp only [compOp] at hc
  split at hc
  · rename_i ho
    split at hc
    · rename_i fs hfs
      split at hc
      · rename_i fd hfd
        split at hc
        · rename_i n hn
          split at hc
          · cases hc
          · rename_i hn0
            cases hc; simp only [xop, xopE] at hx
            have vx := hσ x ho
            split at hx
            · rename_i b o hb
              cases hx
              rw [hb] at vx
              obtain ⟨r, s0, hr, hρ⟩ := ptr_inv vx
              refine good_p hI (s := Instr.fieldAt s (e x) f) (v' := .pointer (some ⟨r, s0 + (o + fd.offset), none⟩)) ?_ (.ptr _ _ _ _ hρ)
              rw [hr]
              simp [Instr.fieldAt, run_under hfs, hfd, Instr.sureAddr, fieldPlace, run_size hn, hn0, add_off, Nat.add_assoc]
            · cases hx
        · cases hc
      · cases hc
    · cases hc
  · cases hc
theorem run_part {t : TypeId} {s : Nat} {g : Option Nat} {cs : Array Value} {off : Nat} (hs : sizeT P t = some s) (hg : aggT P t = some g) {xs : List Value} {u : Value} (hv : VRl ρ w xs cs.toList) (h1 : ∀ x ∈ xs, cell1 x = true)
    (hu : partOf xs off g = some u) : ∃ u', (part t cs off).run P w = .ok u' w ∧ VR ρ w u u' := by
  cases g with
  | some n =>
    have hn := agg_size hg
    rw [hs] at hn; cases hn
    simp only [partOf] at hu
    split at hu
    · cases hu
      refine ⟨.agg (cs.extract off (off + s)), by simp [part, run_agg hg, run_size hs], VR.aggL ?_ fun x hx => h1 x (List.mem_of_mem_drop (List.mem_of_mem_take hx))⟩
      have := (hv.drop off).take s
      simpa [Array.toList_extract, List.extract_eq_take_drop] using this
    · cases hu
  | none =>
    simp only [partOf] at hu
    obtain ⟨u', hu', vu⟩ := hv.get hu
    have h2 : cs[off]? = some u' := by rw [← hu']; simp
    exact ⟨u', by simp [part, run_agg hg, h2], vu⟩
theorem g_field {s : TypeId} {x : Operand} {f : Nat} (hI : Inv lo n0 w0 ρ h w) (hσ : ∀ x, okOp x = true → VR ρ w (ev σ x) (e x)) (hc : compOp P type (.field s x f) = some hop) (hx : xop lo σ h hop = some (v, h')) :
    Good lo n0 w0 P ρ h w (execOp e ⟨dst, .field s x f, type, pos, after, guard⟩) v h' := by
  simp only [compOp] at hc
  split at hc
  · rename_i ho
    split at hc
    · rename_i fs hfs
      split at hc
      · rename_i fd hfd
        split at hc
        · rename_i n g hn hg
          cases hc; simp only [xop, xopE] at hx
          have vx := hσ x ho
          split at hx
          · rename_i cs hcs
            rw [hcs] at vx
            obtain ⟨a', ha', hv, h1⟩ := vx.of_agg
            obtain ⟨u, hu, e2⟩ := Option.map_eq_some_iff.1 hx
            cases e2
            obtain ⟨u', k1, k2⟩ := run_part (P := P) hn hg hv h1 hu
            refine good_p hI (s := Instr.field s (e x) f) ?_ k2
            rw [ha']
            simp [Instr.field, run_under hfs, hfd, asAgg, k1]
          · cases hx
        · cases hc
      · cases hc
    · cases hc
  · cases hc
theorem g_iaddr {t : TypeId} {x i : Operand} (hI : Inv lo n0 w0 ρ h w) (hσ : ∀ x, okOp x = true → VR ρ w (ev σ x) (e x)) (hc : compOp P type (.indexAddr t x i) = some hop) (hx : xop lo σ h hop = some (v, h')) :
    Good lo n0 w0 P ρ h w (execOp e ⟨dst, .indexAddr t x i, type, pos, after, guard⟩) v h' := by
  simp only [compOp] at hc
  split at hc
  · rename_i ho
    have vx := hσ x (okOps_mem ho (by simp))
    have vi := hσ i (okOps_mem ho (by simp))
    split at hc
    · rename_i el hel
      obtain ⟨s, hs, rfl⟩ := Option.map_eq_some_iff.1 hc
      simp only [xop, xopE] at hx
      split at hx
      · rename_i b o z len cap k j hb hj
        rw [hb] at vx; rw [hj] at vi
        have hei : e i = .int k j := vi.of_int
        split at hx
        · rename_i hjl
          cases hx
          obtain ⟨r, s0, cap', hr, hρ⟩ : ∃ r s0 cap', e x = .slice (some ⟨r, s0 + o, none⟩) len cap' ∧ ρ b = some (r, s0) := by
            generalize e x = y at vx
            cases vx with
            | sle _ r s0 _ _ _ hρ => exact ⟨_, _, _, rfl, hρ⟩
            | sli _ r s0 _ _ _ _ _ hρ => exact ⟨_, _, _, rfl, hρ⟩
            | slz => omega
            | sez => omega
          refine good_p hI (s := Instr.indexAt t (e x) (e i)) (v' := .pointer (some ⟨r, s0 + (o + j.toNat * s), none⟩)) ?_ (.ptr _ _ _ _ hρ)
          rw [hr, hei]
          simp [Instr.indexAt, asIntOf, run_under hel, hjl, run_size hs, add_off, Nat.add_assoc]
        · cases hx
      · cases hx
    · rename_i n el hel
      obtain ⟨s, hs, rfl⟩ := Option.map_eq_some_iff.1 hc
      simp only [xop, xopE] at hx
      split at hx
      · rename_i b o k j hb hj
        rw [hb] at vx; rw [hj] at vi
        have hei : e i = .int k j := vi.of_int
        split at hx
        · rename_i hjl
          cases hx
          obtain ⟨r, s0, hr, hρ⟩ := ptr_inv vx
          refine good_p hI (s := Instr.indexAt t (e x) (e i)) (v' := .pointer (some ⟨r, s0 + (o + j.toNat * s), none⟩)) ?_ (.ptr _ _ _ _ hρ)
          rw [hr, hei]
          simp [Instr.indexAt, asIntOf, run_under hel, Instr.sureAddr, hjl, run_size hs, add_off, Nat.add_assoc]
        · cases hx
      · cases hx
    · cases hc
  · cases hc
theorem g_index {t : TypeId} {x i : Operand} (hI : Inv lo n0 w0 ρ h w) (hσ : ∀ x, okOp x = true → VR ρ w (ev σ x) (e x)) (hc : compOp P type (.index t x i) = some hop) (hx : xop lo σ h hop = some (v, h')) :
    Good lo n0 w0 P ρ h w (execOp e ⟨dst, .index t x i, type, pos, after, guard⟩) v h' := by
  simp only [compOp] at hc
  split at hc
  · rename_i ho
    have vx := hσ x (okOps_mem ho (by simp))
    have vi := hσ i (okOps_mem ho (by simp))
    split at hc
    · rename_i n el hel
      split at hc
      · rename_i s g hs hg
        cases hc; simp only [xop, xopE] at hx
        split at hx
        · rename_i cs k j hcs hj
          rw [hcs] at vx; rw [hj] at vi
          have hei : e i = .int k j := vi.of_int
          obtain ⟨a', ha', hv, h1⟩ := vx.of_agg
          split at hx
          · rename_i hjl
            obtain ⟨u, hu, e2⟩ := Option.map_eq_some_iff.1 hx
            cases e2
            obtain ⟨u', k1, k2⟩ := run_part (P := P) hs hg hv h1 hu
            refine good_p hI (s := Instr.index t (e x) (e i)) ?_ k2
            rw [ha', hei]
            simp [Instr.index, asIntOf, run_under hel, hjl, run_size hs, k1]
          · cases hx
        · cases hx
      · cases hc
    · rename_i hel
      cases hc; simp only [xop, xopE] at hx
      split at hx
      · rename_i str k j hs hj
        rw [hs] at vx; rw [hj] at vi
        have hei : e i = .int k j := vi.of_int
        have hex : e x = .string str := vx.of_str
        split at hx
        · rename_i hj0
          obtain ⟨c, hc, e2⟩ := Option.map_eq_some_iff.1 hx
          cases e2
          have hlt : j.toNat < str.size := by
            rcases Nat.lt_or_ge j.toNat str.data.toList.length with h | h
            · rwa [str_len] at h
            · rw [List.getElem?_eq_none h] at hc; cases hc
          have hg : str[j.toNat]? = some c := by
            rw [ByteArray.getElem?_lt' _ _ hlt]
            rw [← hc]
            have : str.data.toList[j.toNat]? = some str.data.toList[j.toNat] := List.getElem?_eq_getElem (by rw [str_len]; exact hlt)
            rw [this]; rfl
          refine good_p hI (s := Instr.index t (e x) (e i)) ?_ (.int _ _)
          rw [hex, hei]
          simp [Instr.index, asIntOf, run_under hel, hj0, hg]
        · cases hx
      · cases hx
    · cases hc
  · cases hc
theorem g_extract {x : Operand} {i : Nat} (hI : Inv lo n0 w0 ρ h w) (hσ : ∀ x, okOp x = true → VR ρ w (ev σ x) (e x)) (hc : compOp P type (.extract x i) = some hop) (hx : xop lo σ h hop = some (v, h')) :
    Good lo n0 w0 P ρ h w (execOp e ⟨dst, .extract x i, type, pos, after, guard⟩) v h' := by
  simp only [compOp] at hc
  split at hc
  · rename_i ho
    cases hc; simp only [xop, xopE] at hx
    have vx := hσ x ho
    split at hx
    · rename_i vs hvs
      obtain ⟨r, hr, e2⟩ := Option.map_eq_some_iff.1 hx
      cases e2
      rw [hvs] at vx
      obtain ⟨a', ha', hv⟩ := vx.of_tuple
      obtain ⟨u', hu', vu⟩ := hv.get hr
      have h2 : a'[i]? = some u' := by rw [← hu']; simp
      refine good_p hI (s := Instr.extract (e x) i) ?_ vu
      rw [ha']
      simp [Instr.extract, h2]
    · cases hx
  · cases hc
theorem VRl.map {f g : Operand → Value} {xs : List Operand} (hv : ∀ x ∈ xs, VR ρ w (f x) (g x)) : VRl ρ w (xs.map f) (xs.map g) := by
  induction xs with
  | nil => exact .nil ρ w
  | cons x xs ih => exact .cons (hv x (by simp)) (ih fun y hy => hv y (by simp [hy]))
theorem g_mkfunc {fn : Fn} {a c : Array Operand} (hI : Inv lo n0 w0 ρ h w) (hσ : ∀ x, okOp x = true → VR ρ w (ev σ x) (e x)) (hc : compOp P type (.makeFunc fn a c) = some hop) (hx : xop lo σ h hop = some (v, h')) :
    Good lo n0 w0 P ρ h w (execOp e ⟨dst, .makeFunc fn a c, type, pos, after, guard⟩) v h' := by
  cases fn <;> simp only [compOp] at hc <;> (try (cases hc; done))
  rename_i f
  split at hc
  · rename_i ho
    cases hc; simp only [xop, xopE] at hx; cases hx
    refine good_p hI (s := Instr.makeFunc (.func f) (a.map e) (c.map e)) (v' := .func (.func f) (a.map e) (c.map e)) rfl ?_
    have ha : VRl ρ w (a.toList.map (ev σ)) (a.toList.map e) := VRl.map fun x hx => hσ x (okOps_mem ho (by simp [hx]))
    have hcc : VRl ρ w (c.toList.map (ev σ)) (c.toList.map e) := VRl.map fun x hx => hσ x (okOps_mem ho (by simp [hx]))
    refine .fn _ _ _ _ _ (by simp) (by simp) (fun i hi => ?_) (fun i hi => ?_)
    · rw [getD_toList, getD_toList, Array.toList_map]; exact ha.getD i
    · rw [getD_toList, getD_toList, Array.toList_map]; exact hcc.getD i
  · cases hc
theorem OR_map {x : Option Operand} (hσ : ∀ x, okOp x = true → VR ρ w (ev σ x) (e x)) (hx : ∀ y ∈ x.toList, okOp y = true) : OR ρ w (x.map (ev σ)) (x.map e) := by
  cases x with
  | none => trivial
  | some y => exact hσ y (hx y (by simp))
theorem g_slice {t : TypeId} {x : Operand} {l hi mx : Option Operand} (hI : Inv lo n0 w0 ρ h w) (hσ : ∀ x, okOp x = true → VR ρ w (ev σ x) (e x)) (hc : compOp P type (.slice t x l hi mx) = some hop) (hx : xop lo σ h hop = some (v, h')) :
    Good lo n0 w0 P ρ h w (execOp e ⟨dst, .slice t x l hi mx, type, pos, after, guard⟩) v h' := by
  simp only [compOp] at hc
  split at hc
  · rename_i ho
    simp only [Bool.and_eq_true, Bool.or_eq_true] at ho
    obtain ⟨ho, hmx⟩ := ho
    have vx := hσ x (okOps_mem ho (by simp))
    have vl := OR_map (x := l) hσ fun y hy => okOps_mem ho (by simp at hy; simp [hy])
    have vh := OR_map (x := hi) hσ fun y hy => okOps_mem ho (by simp at hy; simp [hy])
    have vm := OR_map (x := mx) hσ fun y hy => okOps_mem ho (by simp at hy; simp [hy])
    have hm : mx.map (ev σ) = none ∨ hi.map (ev σ) ≠ none := by
      rcases hmx with h1 | h1
      · left; cases mx <;> simp_all
      · right; cases hi <;> simp_all
    split at hc
    · rename_i el hel
      obtain ⟨s, hs, rfl⟩ := Option.map_eq_some_iff.1 hc
      simp only [xop, xopE] at hx
      obtain ⟨u, hu, e2⟩ := Option.map_eq_some_iff.1 hx
      cases e2
      have hsh : ∃ a len cap, ev σ x = .slice a len cap := by
        unfold sliceOf at hu; split at hu
        · exact ⟨_, _, _, by assumption⟩
        · cases hu
      obtain ⟨a, len, cap, hxs⟩ := hsh
      rw [hxs] at vx hu
      cases a with
      | none =>
        have hey : e x = .slice none 0 0 ∧ len = 0 ∧ cap = 0 := by generalize e x = y at vx; cases vx; exact ⟨rfl, rfl, rfl⟩
        obtain ⟨hey, rfl, rfl⟩ := hey
        unfold sliceOf at hu
        simp only at hu
        split at hu
        · cases hu
        · rename_i m hm1
          split at hu
          · rename_i hmc
            split at hu
            · rename_i hh l' hh1 hl1
              split at hu
              · rename_i hle
                cases hu
                have : m = 0 ∧ hh = 0 ∧ l' = 0 := by omega
                obtain ⟨rfl, rfl, rfl⟩ := this
                have k1 := seen_run (ρ := ρ) (w := w) (x := mx.map (ev σ)) (x' := mx.map e) (by cases mx <;> exact vm) hm1
                have k2 := seen_run (ρ := ρ) (w := w) (x := hi.map (ev σ)) (x' := hi.map e) (by cases hi <;> exact vh) hh1
                have k3 := seen_run (ρ := ρ) (w := w) (x := l.map (ev σ)) (x' := l.map e) (by cases l <;> exact vl) hl1
                have hb := run_bounds (P := P) (w := w) (isS := true) (cap' := 0) k3 k2 k1 hm hmc hle.1 hle.2 (Nat.le_refl _)
                refine good_p hI (s := Instr.sliceAt t (e x) (l.map e) (hi.map e) (mx.map e)) (v' := .slice none 0 0) ?_ .nils
                rw [hey]
                simp [Instr.sliceAt, Instr.slice, run_under hel, hb, run_size hs]
              · cases hu
            · cases hu
          · cases hu
      | some a =>
        obtain ⟨b, o, z⟩ := a
        obtain ⟨a', len', cap', hey⟩ : ∃ a' len' cap', e x = .slice (some a') len' cap' := by generalize e x = y at vx; cases vx <;> exact ⟨_, _, _, rfl⟩
        rw [hey] at vx
        obtain ⟨l1, hh, m, k1, k2⟩ := slice_core (P := P) vx vl vh vm hm hu true
        refine good_p hI (s := Instr.sliceAt t (e x) (l.map e) (hi.map e) (mx.map e)) ?_ k2
        rw [hey]
        by_cases hml : m = l1
        · simp [Instr.sliceAt, Instr.slice, run_under hel, k1, run_size hs, hml]
        · simp [Instr.sliceAt, Instr.slice, run_under hel, k1, run_size hs, hml, add_off]
    · rename_i n el hel
      obtain ⟨s, hs, rfl⟩ := Option.map_eq_some_iff.1 hc
      simp only [xop, xopE] at hx
      split at hx
      · rename_i b o hb
        obtain ⟨u, hu, e2⟩ := Option.map_eq_some_iff.1 hx
        cases e2
        rw [hb] at vx
        obtain ⟨r, s0, hr, hρ⟩ := ptr_inv vx
        obtain ⟨l1, hh, m, k1, k2⟩ := slice_core (P := P) (.sle b r s0 o n n hρ) vl vh vm hm hu false
        refine good_p hI (s := Instr.sliceAt t (e x) (l.map e) (hi.map e) (mx.map e)) ?_ k2
        rw [hr]
        by_cases hml : m = l1
        · simp [Instr.sliceAt, run_under hel, Instr.sureAddr, k1, run_size hs, hml]
        · simp [Instr.sliceAt, run_under hel, Instr.sureAddr, k1, run_size hs, hml, add_off]
      · cases hx
    · rename_i hel
      split at hc
      · rename_i hmn
        cases hc; simp only [xop, xopE] at hx
        split at hx
        · rename_i str hs
          rw [hs] at vx
          have hey : e x = .string str := vx.of_str
          split at hx
          · rename_i b a hb ha
            split at hx
            · rename_i hle
              cases hx
              have hmxn : mx = none := by cases mx <;> simp_all
              subst hmxn
              have k2 := seen_run (ρ := ρ) (w := w) (x := hi.map (ev σ)) (x' := hi.map e) (by cases hi <;> exact vh) hb
              have k3 := seen_run (ρ := ρ) (w := w) (x := l.map (ev σ)) (x' := l.map e) (by cases l <;> exact vl) ha
              have hbd := run_bounds (P := P) (w := w) (isS := false) (cap := str.size) (cap' := str.size) (mx' := none) (mx2 := none) k3 k2 (.inl ⟨rfl, rfl, rfl⟩) (.inl rfl) (Nat.le_refl _) hle.1 hle.2 (Nat.le_refl _)
              refine good_p hI (s := Instr.sliceAt t (e x) (l.map e) (hi.map e) none) (v' := .string (str.extract a b)) ?_ ?_
              · rw [hey]
                simp only [Option.isSome_none, Bool.false_eq_true, if_false] at hbd
                simp [Instr.sliceAt, Instr.slice, run_under hel, hbd]
              · have := ByteArray.extract_mk str.data.toList a b
                simp only [Array.toArray_toList] at this
                rw [this]; exact .str _
            · cases hx
          · cases hx
        · cases hx
      · cases hc
    · cases hc
  · cases hc
end
end
end Go.Proofs.Ytlidnionbofkaaa.Hm
namespace Go.Proofs.Ytlidnionbofkaaa.Hm
noncomputable section
open Go Go.RowKit
set_option linter.all false
set_option linter.unusedSimpArgs false
section
variable {lo n0 : Nat} {w0 : World} {ρ : Rho} {h h' : Heap} {w : World} {P : Program} {σ : List Value} {e : Operand → Value} {dst : Option Tmp} {type : TypeId} {pos : String} {after : Array Edge} {guard : Option (Nat × Bool)} {hop : HOp} {v : Value}
theorem Inv.none_n (hI : Inv lo n0 w0 ρ h w) : ρ h.n = none := by
  cases hx : ρ h.n with
  | none => rfl
  | some x => exact absurd (hI.dom h.n x.1 x.2 (by rw [hx])).1 (Nat.lt_irrefl _)
theorem Inv.alloc (hI : Inv lo n0 w0 ρ h w) {cs : List Value} {c : Array Value} (t : TypeId) (hl : cs.length ≤ c.size) (hv : ∀ i, i < cs.length → VR ρ w (cs.getD i undef) (c.getD i undef) ∧ cell1 (cs.getD i undef) = true)
    {h2 : Heap} (hh : h2 = h.new cs ∨ h2 = h.newC cs) :
    Inv lo n0 w0 (Rho.set ρ h.n w.heap.size 0) h2 (w.alloc (.cells c t)) ∧ Ext ρ (Rho.set ρ h.n w.heap.size 0) h h2 w (w.alloc (.cells c t)) := by
  obtain ⟨k, hn, hg, hcl, hx, hx2, hcells⟩ : ∃ k : Option Nat, h2.n = h.n + 1 ∧ (∀ b, h2.get b = if b = h.n then some (.row cs k) else h.get b) ∧ (∀ c, (∃ y, h.cl c = some y) → h2.cl c = h.cl c) ∧
      (∀ cs' c, HB.row cs k = .row cs' (some c) → ∃ y, h2.cl c = some y ∧ h.n ≤ y.1) ∧ (∀ cs' c, HB.row cs k = .row cs' (some c) → h.cl c = none) ∧ h2.cells h.n = some cs := by
    rcases hh with rfl | rfl
    · exact ⟨none, rfl, Heap.get_new h cs, fun _ _ => rfl, fun _ _ e => by (cases e), fun _ _ e => by (cases e), by unfold Heap.cells; rw [Heap.get_new, if_pos rfl]⟩
    · have hm : h.cl h.m = none := by
        cases hx : h.cl h.m with
        | none => rfl
        | some x => exact absurd (Heap.cl_lt hx) (Nat.lt_irrefl _)
      refine ⟨some h.m, rfl, Heap.get_newC h cs, fun c ⟨y, hy⟩ => ?_, fun cs' c e => ?_, fun cs' c e => ?_, ?_⟩
      · rw [Heap.cl_newC, if_neg (fun e => by rw [e, hm] at hy; cases hy)]
      · cases e; exact ⟨(h.n, 0), by rw [Heap.cl_newC, if_pos rfl], Nat.le_refl _⟩
      · cases e; exact hm
      · unfold Heap.cells; rw [Heap.get_newC, if_pos rfl]; simp only [Heap.cl_newC, if_true]; rw [if_pos (Nat.zero_le _)]
  have hp := hI.push _ hn hg hcl hx hx2
  obtain ⟨a1, a2, a3, a4⟩ := hp.tell (b := h.n) (by omega) hI.lon hI.none_n (.cells c t) (fun cs' hc => by
    rw [hcells] at hc; cases hc; exact ⟨c, t, rfl, hl, hv⟩) (fun es t' hc => by rw [hg, if_pos rfl] at hc; cases hc) (fun _ _ _ _ hc => by rw [hg, if_pos rfl] at hc; cases hc)
  refine ⟨a1, a2, a3, by omega, fun x hx hr => ⟨a4 x (Nat.ne_of_lt hx) hr, by rw [hg, if_neg (Nat.ne_of_lt hx)]⟩⟩
theorem Inv.allocMap (hI : Inv lo n0 w0 ρ h w) :
    Inv lo n0 w0 (Rho.set ρ h.n w.heap.size 0) h.newMap (w.alloc (.map #[] 0)) ∧ Ext ρ (Rho.set ρ h.n w.heap.size 0) h h.newMap w (w.alloc (.map #[] 0)) := by
  have hg := Heap.get_newMap h
  have hp := hI.push (h' := h.newMap) _ rfl hg (fun _ _ => rfl) (fun _ _ e => by (cases e)) (fun _ _ e => by (cases e))
  obtain ⟨a1, a2, a3, a4⟩ := hp.tell (b := h.n) (by show h.n < h.n + 1; omega) hI.lon hI.none_n (.map #[] 0) (fun cs' hc => by
    unfold Heap.cells at hc; rw [hg, if_pos rfl] at hc; cases hc) (fun es t' hc => by rw [hg, if_pos rfl] at hc; cases hc; exact ⟨rfl, rfl⟩) (fun _ _ _ _ hc => by rw [hg, if_pos rfl] at hc; cases hc)
  exact ⟨a1, a2, a3, by show h.n ≤ h.n + 1; omega, fun x hx hr => ⟨a4 x (Nat.ne_of_lt hx) hr, by rw [hg, if_neg (Nat.ne_of_lt hx)]⟩⟩
theorem Inv.allocItr (hI : Inv lo n0 w0 ρ h w) {m m' : Option Nat} (t d : Nat) (hm : VR ρ w (.map m) (.map m')) :
    Inv lo n0 w0 (Rho.set ρ h.n w.heap.size 0) { h with bs := .itr m t [] d :: h.bs, n := h.n + 1 } (w.alloc (.mapIter m' t #[] d)) ∧ Ext ρ (Rho.set ρ h.n w.heap.size 0) h { h with bs := .itr m t [] d :: h.bs, n := h.n + 1 } w (w.alloc (.mapIter m' t #[] d)) := by
  have hg : ∀ b, ({ h with bs := .itr m t [] d :: h.bs, n := h.n + 1 } : Heap).get b = if b = h.n then some (.itr m t [] d) else h.get b := Heap.get_push h _ _ _
  have hp := hI.push (h' := { h with bs := .itr m t [] d :: h.bs, n := h.n + 1 }) _ rfl hg (fun _ _ => rfl) (fun _ _ e => by (cases e)) (fun _ _ e => by (cases e))
  obtain ⟨a1, a2, a3, a4⟩ := hp.tell (b := h.n) (by show h.n < h.n + 1; omega) hI.lon hI.none_n (.mapIter m' t #[] d) (fun cs' hc => by
    unfold Heap.cells at hc; rw [hg, if_pos rfl] at hc; cases hc) (fun es t' hc => by rw [hg, if_pos rfl] at hc; cases hc) (fun _ _ _ _ hc => by rw [hg, if_pos rfl] at hc; cases hc; exact ⟨m', rfl, hm⟩)
  exact ⟨a1, a2, a3, by show h.n ≤ h.n + 1; omega, fun x hx hr => ⟨a4 x (Nat.ne_of_lt hx) hr, by rw [hg, if_neg (Nat.ne_of_lt hx)]⟩⟩
theorem rho_new (ρ : Rho) (b r s : Nat) : (Rho.set ρ b r s) b = some (r, s) := by unfold Rho.set; rw [if_pos rfl]
theorem run_newRow (t : TypeId) (c : Array Value) : (newRow t c).run P w = .ok ⟨w.heap.size, 0, none⟩ (w.alloc (.cells c t)) := by
  rfl
theorem good_row (hI : Inv lo n0 w0 ρ h w) {cs : List Value} {c : Array Value} (t : TypeId) (hl : cs.length ≤ c.size) (hv : ∀ i, i < cs.length → VR ρ w (cs.getD i undef) (c.getD i undef) ∧ cell1 (cs.getD i undef) = true)
    {h2 : Heap} (hh : h2 = h.new cs ∨ h2 = h.newC cs) {s : Sem Value} {v v' : Value} (hs : s.run P w = .ok v' (w.alloc (.cells c t))) (hV : VR (Rho.set ρ h.n w.heap.size 0) (w.alloc (.cells c t)) v v') :
    Good lo n0 w0 P ρ h w (do pure (.value (← s))) v h2 := by
  obtain ⟨a1, a2⟩ := hI.alloc t hl hv hh
  exact good_v hs a1 a2 hV
theorem VRl.row {cs : List Value} {c : Array Value} (hv : VRl ρ w cs c.toList) (h1 : ∀ x ∈ cs, cell1 x = true) : cs.length ≤ c.size ∧ ∀ i, i < cs.length → VR ρ w (cs.getD i undef) (c.getD i undef) ∧ cell1 (cs.getD i undef) = true := by
  refine ⟨by rw [hv.1]; simp, fun i hi => ⟨by rw [getD_toList]; exact hv.2 i hi, h1 _ ?_⟩⟩
  rw [List.getD_eq_getElem?_getD, List.getElem?_eq_getElem hi]; simp
theorem nt {z : Value} (h : notTup z = true) : ∀ cs, z ≠ .tuple cs := by
  rintro cs rfl; cases h
theorem g_alloc {t : TypeId} (hI : Inv lo n0 w0 ρ h w) (hc : compOp P type (.alloc t) = some hop) (hx : xop lo σ h hop = some (v, h')) :
    Good lo n0 w0 P ρ h w (execOp e ⟨dst, .alloc t, type, pos, after, guard⟩) v h' := by
  simp only [compOp] at hc
  split at hc
  · rename_i z hz
    split at hc
    · rename_i hp
      cases hc; simp only [xop, xopE] at hx; cases hx
      obtain ⟨a, b⟩ := plainV_cells (ρ := ρ) (w := w) hp.1 (nt hp.2)
      obtain ⟨l1, l2⟩ := a.row b
      refine good_row hI t l1 l2 (.inl rfl) (s := Instr.alloc t true (.tuple #[])) (v' := .pointer (some ⟨w.heap.size, 0, none⟩)) ?_ ?_
      · simp [Instr.alloc, run_zero hz, newVar, run_newRow]
      · have := VR.ptr (w := w.alloc (.cells z.cells t)) h.n w.heap.size 0 0 (rho_new ρ h.n w.heap.size 0)
        simpa using this
    · cases hc
  · cases hc
theorem g_box {t : TypeId} {x : Operand} (hI : Inv lo n0 w0 ρ h w) (hσ : ∀ x, okOp x = true → VR ρ w (ev σ x) (e x)) (hc : compOp P type (.box t x) = some hop) (hx : xop lo σ h hop = some (v, h')) :
    Good lo n0 w0 P ρ h w (execOp e ⟨dst, .box t x, type, pos, after, guard⟩) v h' := by
  simp only [compOp] at hc
  split at hc
  · rename_i ho
    cases hc; simp only [xop, xopE] at hx
    split at hx
    · rename_i cs hcs
      cases hx
      obtain ⟨a, b⟩ := (hσ x ho).cells hcs
      obtain ⟨l1, l2⟩ := a.row b
      refine good_row hI t l1 l2 (.inl rfl) (s := Instr.box t (e x)) (v' := .pointer (some ⟨w.heap.size, 0, none⟩)) ?_ ?_
      · simp [Instr.box, newVar, run_newRow]
      · have := VR.ptr (w := w.alloc (.cells (e x).cells t)) h.n w.heap.size 0 0 (rho_new ρ h.n w.heap.size 0)
        simpa using this
    · cases hx
  · cases hc
theorem foldl_splice (off : Nat) : ∀ (l : List Value) (k : Nat) (cells : Array Value), (l.zipIdx k).foldl (fun cs (p : Value × Nat) => cs.setIfInBounds (off + p.2) p.1) cells = spliceA cells (off + k) l
  | [], k, cells => rfl
  | x :: l, k, cells => by
    rw [List.zipIdx_cons, List.foldl_cons, foldl_splice off l (k + 1), spliceA]; rfl
theorem VRl.splice {cs vs : List Value} {cells : Array Value} {vs' : List Value} {off : Nat} (hc : VRl ρ w cs cells.toList) (hv : VRl ρ w vs vs') (hle : off + vs.length ≤ cs.length) :
    VRl ρ w (cs.take off ++ (vs ++ cs.drop (off + vs.length))) (spliceA cells off vs').toList := by
  have hl : (cs.take off ++ (vs ++ cs.drop (off + vs.length))).length = cs.length := by simp; omega
  have hcl : cs.length = cells.size := by have := hc.1; simpa using this
  refine ⟨by rw [hl, hc.1]; simp [spliceA_size], fun i hi => ?_⟩
  rw [hl] at hi
  rw [getD_splice _ _ _ hle, ← getD_toList (spliceA cells off vs'), spliceA_get _ _ _ (by rw [← hv.1]; omega), ← hv.1]
  split
  · exact hv.2 _ (by omega)
  · rw [getD_toList]; exact hc.2 i hi
theorem fill_ok {f : Nat → Option (Nat × Nat)} {place : Nat → Option (Nat × Nat)} (hf : ∀ i x, f i = some x → place i = some x) (hσ : ∀ x, okOp x = true → VR ρ w (ev σ x) (e x)) : ∀ (ps : List (Nat × Operand)) (hps : List (Nat × Nat × Operand)), partsL f ps = some hps →
    ∀ (cs : List Value) (cells : Array Value) (r : List Value), VRl ρ w cs cells.toList → (∀ x ∈ cs, cell1 x = true) → fillL cs (hps.map fun p => (p.1, p.2.1, ev σ p.2.2)) = some r →
      ∃ r' : Array Value, Instr.fill place cells (ps.map fun p => (p.1, e p.2)) = some r' ∧ VRl ρ w r r'.toList ∧ (∀ x ∈ r, cell1 x = true) ∧ r.length = cs.length
  | [], hps, hp, cs, cells, r, hv, h1, hr => by
    simp only [partsL] at hp; cases hp
    simp only [List.map_nil, fillL] at hr; cases hr
    exact ⟨cells, rfl, hv, h1, rfl⟩
  | (i, x) :: ps, hps, hp, cs, cells, r, hv, h1, hr => by
    simp only [partsL] at hp
    split at hp
    · rename_i o s rest hi hrest
      split at hp
      · rename_i ho
        cases hp
        simp only [List.map_cons, fillL] at hr
        split at hr
        · rename_i vs hvs
          split at hr
          · rename_i hle
            obtain ⟨rfl, hle⟩ := hle
            obtain ⟨a, b⟩ := (hσ x ho).cells hvs
            have hsz : (e x).cells.size = vs.length := by have := a.1; simp at this; omega
            have hcl : cs.length = cells.size := by have := hv.1; simpa using this
            have hlen : (cs.take o ++ (vs ++ cs.drop (o + vs.length))).length = cs.length := by simp; omega
            obtain ⟨r', k1, k2, k3, k4⟩ := fill_ok hf hσ ps rest hrest _ (spliceA cells o (e x).cells.toList) r (hv.splice a hle) (fun y hy => by
              simp only [List.mem_append] at hy
              rcases hy with hy | hy | hy
              · exact h1 y (List.mem_of_mem_take hy)
              · exact b y hy
              · exact h1 y (List.mem_of_mem_drop hy)) hr
            refine ⟨r', ?_, k2, k3, k4.trans hlen⟩
            simp only [List.map_cons, Instr.fill, hf i _ hi, hsz, ne_eq, not_true_eq_false, decide_false, Bool.false_or, decide_eq_true_eq]
            rw [if_neg (by omega)]
            have := foldl_splice o (e x).cells.toList 0 cells
            rw [← Array.foldl_toList, Array.toList_zipIdx]
            rw [this]; exact k1
          · cases hr
        · cases hr
      · cases hp
    · cases hp
theorem run_places (fs : Array Field) (hall : (fs.toList.all fun f => (sizeT P f.type).isSome) = true) :
    (fs.mapM fun f => do pure (f.offset, ← sizeOf f.type) : Sem (Array (Nat × Nat))).run P w = .ok (fs.map fun f => (f.offset, (sizeT P f.type).getD 0)) w := by
  obtain ⟨l⟩ := fs
  rw [Array.mapM_eq_mapM_toList, Sem.run_map]
  simp only at hall ⊢
  have : ∀ (l : List Field), (l.all fun f => (sizeT P f.type).isSome) = true → (l.mapM fun f => do pure (f.offset, ← sizeOf f.type) : Sem (List (Nat × Nat))).run P w = .ok (l.map fun f => (f.offset, (sizeT P f.type).getD 0)) w := by
    intro l
    induction l with
    | nil => intro _; simp
    | cons f l ih =>
      intro hl
      simp only [List.all_cons, Bool.and_eq_true] at hl
      obtain ⟨n, hn⟩ := Option.isSome_iff_exists.1 hl.1
      rw [List.mapM_cons, Sem.run_bind, Sem.run_bind, run_size hn]
      simp only [Result.andThen_ok, Sem.run_pure, Sem.run_bind, ih hl.2]
      simp [hn]
  rw [this l hall]
  simp
theorem ex_parts (parts : Array (Nat × Operand)) : (parts.map fun (i, x) => (i, e x)) = ⟨parts.toList.map fun p => (p.1, e p.2)⟩ := by
  cases parts; simp
theorem ex_build {t : TypeId} {parts : Array (Nat × Operand)} : execOp e ⟨dst, .build t parts, type, pos, after, guard⟩ = (do pure (.value (← Instr.build t ⟨parts.toList.map fun p => (p.1, e p.2)⟩))) := by
  rw [← ex_parts]; rfl
theorem ex_bslice {t : TypeId} {len : Nat} {parts : Array (Nat × Operand)} : execOp e ⟨dst, .buildSlice t len parts, type, pos, after, guard⟩ = (do pure (.value (← Instr.buildSlice t len ⟨parts.toList.map fun p => (p.1, e p.2)⟩))) := by
  rw [← ex_parts]; rfl
theorem g_build {t : TypeId} {parts : Array (Nat × Operand)} (hI : Inv lo n0 w0 ρ h w) (hσ : ∀ x, okOp x = true → VR ρ w (ev σ x) (e x)) (hc : compOp P type (.build t parts) = some hop) (hx : xop lo σ h hop = some (v, h')) :
    Good lo n0 w0 P ρ h w (execOp e ⟨dst, .build t parts, type, pos, after, guard⟩) v h' := by
  rw [ex_build]
  simp only [compOp] at hc
  split at hc
  · cases hc
  · rename_i z hz
    split at hc
    · rename_i hp
      obtain ⟨za, zb⟩ := plainV_cells (ρ := ρ) (w := w) hp.1 (nt hp.2)
      split at hc
      · rename_i fs hfs
        split at hc
        · cases hc
        · rename_i hall
          obtain ⟨hps, hpl, rfl⟩ := Option.map_eq_some_iff.1 hc
          simp only [xop, xopE] at hx
          split at hx
          · rename_i cs hcs
            cases hx
            have hall' : (fs.toList.all fun f => (sizeT P f.type).isSome) = true := by cases hq : (fs.toList.all fun f => (sizeT P f.type).isSome) <;> simp_all only [Bool.not_true, Bool.not_false, not_true_eq_false]
            obtain ⟨r', k1, k2, k3, _⟩ := fill_ok (place := fun i => (fs.map fun f => (f.offset, (sizeT P f.type).getD 0))[i]?) (fun i x hi => by
              split at hi
              · rename_i f hf
                obtain ⟨n, hn, rfl⟩ := Option.map_eq_some_iff.1 hi
                simp [Array.getElem?_map, hf, hn]
              · cases hi) hσ parts.toList hps hpl _ z.cells cs za zb hcs
            refine good_p hI (s := Instr.build t ⟨parts.toList.map fun p => (p.1, e p.2)⟩) (v' := .agg r') ?_ (VR.aggL k2 k3)
            unfold Instr.build
            simp only [Sem.run_bind, run_zero hz, run_under hfs, Result.andThen_ok, run_places fs hall', k1, Sem.run_pure]
          · cases hx
      · rename_i n el hel
        split at hc
        · rename_i s hs
          obtain ⟨hps, hpl, rfl⟩ := Option.map_eq_some_iff.1 hc
          simp only [xop, xopE] at hx
          split at hx
          · rename_i cs hcs
            cases hx
            obtain ⟨r', k1, k2, k3, _⟩ := fill_ok (place := fun i => some (i * s, s)) (fun i x hi => hi) hσ parts.toList hps hpl _ z.cells cs za zb hcs
            refine good_p hI (s := Instr.build t ⟨parts.toList.map fun p => (p.1, e p.2)⟩) (v' := .agg r') ?_ (VR.aggL k2 k3)
            unfold Instr.build
            simp only [Sem.run_bind, run_zero hz, run_under hel, Result.andThen_ok, run_size hs, k1, Sem.run_pure]
          · cases hx
        · cases hc
      · cases hc
    · cases hc
theorem zeros_get (z : List Value) (hz : 0 < z.length) : ∀ (n i : Nat), i < n * z.length → (List.replicate n z).flatten.getD i undef = z.getD (i % z.length) undef
  | 0, i, h => by omega
  | n + 1, i, h => by
    rw [List.replicate_succ, List.flatten_cons]
    simp only [List.getD_eq_getElem?_getD]
    by_cases hi : i < z.length
    · rw [List.getElem?_append_left hi, Nat.mod_eq_of_lt hi]
    · rw [List.getElem?_append_right (by omega), Nat.mod_eq_sub_mod (by omega)]
      have := zeros_get z hz n (i - z.length) (by rw [Nat.succ_mul] at h; omega)
      simpa only [List.getD_eq_getElem?_getD] using this
theorem zeros_len (z : List Value) (n : Nat) : (List.replicate n z).flatten.length = n * z.length := by simp [List.length_flatten]
theorem zeros_row (z : Array Value) (hz : 0 < z.size) (n : Nat) (hv : VRl ρ w z.toList z.toList) (h1 : ∀ x ∈ z.toList, cell1 x = true) :
    VRl ρ w (List.replicate n z.toList).flatten ((Array.range (n * z.size)).map (z[· % z.size]!)).toList ∧ (∀ x ∈ (List.replicate n z.toList).flatten, cell1 x = true) := by
  refine ⟨⟨by simp [zeros_len], fun i hi => ?_⟩, fun x hx => ?_⟩
  · rw [zeros_len] at hi
    rw [zeros_get _ (by simpa using hz) _ _ hi]
    have hi' : i < n * z.size := by simpa using hi
    have hm : i % z.size < z.size := Nat.mod_lt _ hz
    have e1 : ((Array.range (n * z.size)).map (z[· % z.size]!)).toList.getD i undef = z.toList.getD (i % z.toList.length) undef := by
      simp [List.getD_eq_getElem?_getD, hi', Array.getElem?_eq_getElem hm, getElem!_pos, hm]
    rw [e1]
    exact hv.getD _
  · obtain ⟨l, hl, hx⟩ := List.mem_flatten.1 hx
    have := (List.mem_replicate.1 hl).2
    subst this
    exact h1 x hx
theorem g_bslice {t : TypeId} {len : Nat} {parts : Array (Nat × Operand)} (hI : Inv lo n0 w0 ρ h w) (hσ : ∀ x, okOp x = true → VR ρ w (ev σ x) (e x)) (hc : compOp P type (.buildSlice t len parts) = some hop) (hx : xop lo σ h hop = some (v, h')) :
    Good lo n0 w0 P ρ h w (execOp e ⟨dst, .buildSlice t len parts, type, pos, after, guard⟩) v h' := by
  rw [ex_bslice]
  simp only [compOp] at hc
  split at hc
  · rename_i el hel
    split at hc
    · rename_i s z hs hz
      split at hc
      · rename_i hp
        obtain ⟨hp1, hp2, hp3, hp4, hp5, hp6⟩ := hp
        cases hc; simp only [xop, xopE] at hx
        split at hx
        · rename_i cs hcs
          cases hx
          obtain ⟨za, zb⟩ := plainV_cells (ρ := ρ) (w := w) hp1 (nt hp2)
          obtain ⟨r1, r2⟩ := zeros_row z.cells (by omega) len za zb
          rw [hp3] at r1
          have hpl : ∀ (ps : List (Nat × Operand)), okOps (ps.map (·.2)) = true → partsL (fun i => some (i * s, s)) ps = some (ps.map fun p => (p.1 * s, s, p.2)) := by
            intro ps
            induction ps with
            | nil => intro _; rfl
            | cons p ps ih =>
              intro ho
              simp only [List.map_cons, okOps, List.all_cons, Bool.and_eq_true] at ho
              obtain ⟨i, x⟩ := p
              simp only [partsL, ih ho.2, List.map_cons]
              rw [if_pos ho.1]
          have hcs' : fillL (List.replicate len z.cells.toList).flatten ((parts.toList.map fun p => (p.1 * s, s, p.2)).map fun p => (p.1, p.2.1, ev σ p.2.2)) = some cs := by
            rw [List.map_map]; exact hcs
          obtain ⟨r', k1, k2, k3, k4⟩ := fill_ok (place := fun i => some (i * s, s)) (fun i x hi => hi) hσ parts.toList _ (hpl _ hp6) _ _ cs r1 r2 hcs'
          obtain ⟨l1, l2⟩ := k2.row k3
          have hrun : (Instr.buildSlice t len ⟨parts.toList.map fun p => (p.1, e p.2)⟩).run P w = .ok (.slice (some ⟨w.heap.size, 0, none⟩) len len) (w.alloc (.cells r' el)) := by
            unfold Instr.buildSlice
            have hnle : ¬ (len * s > 2 ^ 24) := Nat.not_lt.2 hp5
            rw [Sem.run_bind, run_under hel]
            simp only [Result.andThen_ok, Sem.run_bind, run_size hs, if_neg hnle]
            by_cases h0 : len * s = 0
            · have hl0 : len = 0 := by rcases Nat.mul_eq_zero.1 h0 with h | h <;> omega
              subst hl0
              have hr0 : Array.range 0 = #[] := by simp
              simp only [Nat.zero_mul, hr0, List.map_toArray, List.map_nil] at k1
              simp only [Nat.zero_mul, if_true, hr0, List.map_toArray, List.map_nil, Sem.run_pure, Result.andThen_ok, k1, Sem.run_bind, run_newRow]
            · simp only [if_neg h0, Sem.run_bind, run_zero hz, Sem.run_pure, Result.andThen_ok, hp3, k1, run_newRow]
          obtain ⟨a1, a2⟩ := hI.alloc el l1 l2 (.inl rfl)
          refine good_v hrun a1 a2 ?_
          have := VR.sle (w := w.alloc (.cells r' el)) h.n w.heap.size 0 0 len len (rho_new ρ h.n w.heap.size 0)
          simpa using this
        · cases hx
      · cases hc
    · cases hc
  · cases hc
end
end
end Go.Proofs.Ytlidnionbofkaaa.Hm
