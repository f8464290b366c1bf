/- Keys of maps: the machine's look-ups and stores beside H's. -/
import Derived.Test.YtbjgnogcjglcoaaHE
namespace Go.Proofs.Ytbjgnogcjglcoaa.Hm
open Go Go.RowKit
set_option linter.all false
set_option linter.unusedSimpArgs false
section
variable {P : Program} {w : World} {ρ : Rho}
theorem VR.prim {k : PK} {x x' : Value} (h : VR ρ w x x') {y : Value} {r : Bool} (e : veq0 k x y = some r) : x' = x := by
  rcases veq0_inv e with ⟨_, a, b, rfl, _⟩ | ⟨_, q, a, b, rfl, _⟩ | ⟨_, a, b, rfl, _⟩ <;> cases h <;> rfl
theorem VR.prim2 {k : PK} {x y y' : Value} (h : VR ρ w y y') {r : Bool} (e : veq0 k x y = some r) : y' = y := by
  rcases veq0_inv e with ⟨_, a, b, _, rfl, _⟩ | ⟨_, q, a, b, _, rfl, _⟩ | ⟨_, a, b, _, rfl, _⟩ <;> cases h <;> rfl
theorem eqcells_vr {xs xs' ys ys' : List Value} (hx : VRl ρ w xs xs') (hy : VRl ρ w ys ys') : ∀ (l : List (Nat × PK)) (r : Bool), eqcells xs ys l = some r → eqcells xs' ys' l = some r
  | [], r, h => h
  | o :: os, r, h => by
    simp only [eqcells] at h ⊢
    split at h
    · rename_i a b ha hb
      obtain ⟨a', ha', va⟩ := hx.get ha
      obtain ⟨b', hb', vb⟩ := hy.get hb
      rw [ha', hb']
      split at h
      · rename_i e
        rw [va.prim e, vb.prim2 e]
        simp only [e]
        exact eqcells_vr hx hy os r h
      · rename_i r1 e
        rw [va.prim h, vb.prim2 h]
        simp only [h]
        split
        · rename_i e2; exact absurd (h.trans e2) e
        · rfl
    · cases h
theorem forIn_ok {α : Type} {f : α → Sem (ForInStep PUnit)} : ∀ (l : List α), (∀ x ∈ l, (f x).run P w = .ok (ForInStep.yield ()) w) → (forIn l () (fun x _ => f x)).run P w = .ok () w
  | [], _ => by simp
  | x :: l, h => by
    rw [List.forIn_cons]
    simp only [Sem.run_bind, h x (by simp), Result.andThen_ok]
    exact forIn_ok l fun y hy => h y (by simp [hy])
theorem ck_prim {k : PK} {t : TypeId} (hk : PKof P k t) (em : Bool) (n : Nat) (x : Value) : (Instr.checkKey em (n + 1) t x).run P w = .ok () w := by
  unfold Instr.checkKey
  rcases hk with ⟨_, hu⟩ | ⟨_, q, hu⟩ | ⟨_, hu⟩ <;> simp [run_under hu]
theorem leavesF_mem {d : Nat} {base N : Nat} : ∀ {fs : List Field} {l : List (Nat × PK)}, leavesF P (leaves P d) base N fs = some l → ∀ f ∈ fs, ∃ s a, sizeT P f.type = some s ∧ f.offset + s ≤ N ∧ 0 < s ∧ leaves P d f.type (base + f.offset) = some a ∧ ∀ o ∈ a, o ∈ l
  | [], l, h, f, hf => by cases hf
  | g :: fs, l, h, f, hf => by
    simp only [leavesF] at h
    split at h
    · cases h
    · split at h
      · rename_i s hs
        split at h
        · rename_i hle
          split at h
          · rename_i a b ha hb
            cases h
            cases hf with
            | head => exact ⟨s, a, hs, hle.1, hle.2, ha, fun o ho => by simp [ho]⟩
            | tail _ hf =>
              obtain ⟨s2, a2, h1, h2, h3, h4, h5⟩ := leavesF_mem hb f hf
              exact ⟨s2, a2, h1, h2, h3, h4, fun o ho => by simp [h5 o ho]⟩
          · cases h
        · cases h
      · cases h
theorem leavesA_mem {f : Nat → Option (List (Nat × PK))} {base s : Nat} : ∀ {len i : Nat} {l : List (Nat × PK)}, leavesA f base s i len = some l → ∀ j, i ≤ j → j < i + len → ∃ a, f (base + j * s) = some a ∧ ∀ o ∈ a, o ∈ l
  | 0, i, l, h, j, h1, h2 => by omega
  | len + 1, i, l, h, j, h1, h2 => by
    simp only [leavesA] at h
    split at h
    · rename_i a b ha hb
      cases h
      by_cases e : j = i
      · subst e; exact ⟨a, ha, fun o ho => by simp [ho]⟩
      · obtain ⟨a2, h3, h4⟩ := leavesA_mem hb j (by omega) (by omega)
        exact ⟨a2, h3, fun o ho => by simp [h4 o ho]⟩
    · cases h
theorem ck_leaves (XS : List Value) (em : Bool) : ∀ (d : Nat) (t : TypeId) (base : Nat) (l : List (Nat × PK)), leaves P d t base = some l → ∀ (n : Nat), d ≤ n → ∀ (x : Value), View P XS base t x → (∀ o ∈ l, ∃ v, XS[o.1]? = some v) →
    (Instr.checkKey em n t x).run P w = .ok () w
  | 0, t, base, l, h => by cases h
  | d + 1, t, base, l, h => by
    intro n hn x vx hl
    obtain ⟨n', rfl⟩ : ∃ n', n = n' + 1 := ⟨n - 1, by omega⟩
    cases hu : P.underlying t with
    | none => simp [leaves, hu] at h
    | some k =>
      cases k <;> simp only [leaves, hu] at h <;> (try (cases h; done))
      · exact ck_prim (k := .bool) (.inl ⟨rfl, hu⟩) em n' x
      · exact ck_prim (k := .int) (.inr (.inl ⟨rfl, _, hu⟩)) em n' x
      · exact ck_prim (k := .str) (.inr (.inr ⟨rfl, hu⟩)) em n' x
      · rename_i len e
        split at h
        · rename_i s N hs hN
          split at h
          · rename_i hle
            obtain ⟨xs, rfl, hx⟩ := view_array hu hN vx
            unfold Instr.checkKey
            simp only [Sem.run_bind, run_under hu, Result.andThen_ok, Std.Legacy.Range.forIn_eq_forIn_range', Std.Legacy.Range.size]
            rw [forIn_ok]
            · simp
            · intro i hi
              have hi' : i < len := by simpa using hi
              obtain ⟨a, ha, hal⟩ := leavesA_mem h i (by omega) (by omega)
              have h1 : i * s + s ≤ N := Nat.le_trans (by rw [← Nat.succ_mul]; exact Nat.mul_le_mul_right _ (by omega)) hle.1
              obtain ⟨v, pv, vv⟩ := part_view (w := w) hs hx h1 hle.2 (leaves_agg ha) (fun hg => by
                obtain ⟨k, rfl⟩ := leaves_cell ha hg
                exact hl (base + i * s, k) (hal _ (by simp)))
              have := ck_leaves XS em d e (base + i * s) a ha n' (by omega) v vv (fun o ho => hl o (hal o ho))
              simp [run_size hs, pv, this]
          · cases h
        · cases h
      · rename_i fs
        split at h
        · cases h
        · split at h
          · rename_i N hN
            obtain ⟨xs, rfl, hx⟩ := view_struct hu hN vx
            unfold Instr.checkKey
            simp only [Sem.run_bind, run_under hu, Result.andThen_ok]
            rw [← Array.forIn_toList]
            rw [forIn_ok]
            · simp
            · intro f hf
              obtain ⟨s, a, hs, hle, hs1, ha, hal⟩ := leavesF_mem h f hf
              obtain ⟨v, pv, vv⟩ := part_view (w := w) hs hx hle hs1 (leaves_agg ha) (fun hg => by
                obtain ⟨k, rfl⟩ := leaves_cell ha hg
                exact hl (base + f.offset, k) (hal _ (by simp)))
              have := ck_leaves XS em d f.type (base + f.offset) a ha n' (by omega) v vv (fun o ho => hl o (hal o ho))
              by_cases hnm : f.name ≠ "_"
              · simp [hnm, pv, this]
              · simp [hnm]
          · cases h
/-- What is known of a key's type. -/
theorem keyT_inv {t : TypeId} {D : EqD} (h : keyT P t = some D) : (∃ k, D = .prim k ∧ PKof P k t) ∨ ∃ n l, D = .cells n l ∧ sizeT P t = some n ∧ leaves P 20 t 0 = some l ∧ l.map (·.1) = List.range n ∧ aggT P t = some (some n) ∧
    (match P.underlying t with | some (.array _ _) | some (.struct _) => true | _ => false) = true ∧ P.eqGuardType P.depth t = false := by
  unfold keyT at h
  split at h
  · rename_i k he
    cases h
    left
    refine ⟨k, rfl, ?_⟩
    unfold eqT at he
    cases hu : P.underlying t with
    | none => simp [hu] at he
    | some d =>
      cases d <;> simp only [hu] at he <;> (try (cases he; done))
      · cases he; exact .inl ⟨rfl, hu⟩
      · cases he; exact .inr (.inl ⟨rfl, _, hu⟩)
      · cases he; exact .inr (.inr ⟨rfl, hu⟩)
      all_goals (split at he <;> (try (cases he; done)) <;> split at he <;> cases he)
  · rename_i n l he
    split at h
    · rename_i hr
      cases h
      right
      refine ⟨n, l, rfl, ?_⟩
      unfold eqT at he
      cases hu : P.underlying t with
      | none => simp [hu] at he
      | some d =>
        cases d <;> simp only [hu] at he <;> (try (cases he; done))
        all_goals
          split at he
          · cases he
          · rename_i hg
            split at he
            · rename_i n2 l2 hn hl
              cases he
              exact ⟨hn, hl, hr, by simp [aggT, hu, hn], rfl, by simpa using hg⟩
            · cases he
    · cases h
  · cases h
theorem view_whole {t : TypeId} {n : Nat} (hg : aggT P t = some (some n)) {xs : Array Value} : View P xs.toList 0 t (.agg xs) := by
  unfold View; rw [hg]; exact ⟨xs, rfl, fun j hj => by simp⟩
theorem eqT_cells {t : TypeId} {n : Nat} {l : List (Nat × PK)} (h : eqT P t = some (.cells n l)) : leaves P 20 t 0 = some l ∧ aggT P t = some (some n) ∧ P.eqGuardType P.depth t = false := by
  unfold eqT at h
  cases hu : P.underlying t with
  | none => simp [hu] at h
  | some d =>
    cases d <;> simp only [hu] at h <;> (try (cases h; done))
    all_goals
      split at h
      · cases h
      · rename_i hg
        split at h
        · rename_i n2 l2 hn hl
          cases h
          exact ⟨hl, by simp [aggT, hu, hn], by simpa using hg⟩
        · cases h
theorem key_ck {t : TypeId} {D : EqD} (h : keyT P t = some D) {k k' : Value} (hk : keyOk D k = true) (hv : VR ρ w k k') (em : Bool) : (Instr.checkKey em 10000 t k').run P w = .ok () w := by
  rcases keyT_inv h with ⟨q, rfl, hq⟩ | ⟨n, l, rfl, hn, hl, hr, hg, _, _⟩
  · exact ck_prim hq em 9999 k'
  · cases k <;> simp only [keyOk] at hk <;> (try (cases hk; done))
    rename_i xs
    obtain ⟨xs', rfl, hx, _⟩ := hv.of_agg
    simp only [Bool.and_eq_true, List.all_eq_true] at hk
    refine ck_leaves xs'.toList em 20 t 0 l hl 10000 (by omega) _ (view_whole hg) fun o ho => ?_
    have := hk.2 o ho
    split at this
    · rename_i v hv2
      obtain ⟨v', h1, _⟩ := hx.get hv2
      exact ⟨v', h1⟩
    · cases this
theorem eqv_key {t : TypeId} {D : EqD} (h : keyT P t = some D) {a a' b b' : Value} {r : Bool} (ha : VR ρ w a a') (hb : VR ρ w b b') (he : eqv D a b = some r) : (Op.equal t a' b').run P w = .ok r w := by
  rcases keyT_inv h with ⟨q, rfl, hq⟩ | ⟨n, l, rfl, hn, hl, hr, hg, _, _⟩
  · simp only [eqv] at he
    rw [ha.prim he, hb.prim2 he]
    exact eq_prim he hq
  · cases a <;> simp only [eqv] at he <;> (try (cases he; done))
    cases b <;> simp only [eqv] at he <;> (try (cases he; done))
    split at he
    · obtain ⟨xs', rfl, hx, _⟩ := ha.of_agg
      obtain ⟨ys', rfl, hy, _⟩ := hb.of_agg
      exact eq_leaves xs'.toList ys'.toList 20 t 0 l hl 10000 (by omega) _ _ r (view_whole hg) (view_whole hg) (eqcells_vr hx hy l r he)
    · cases he
/-- Entries told. -/
def ER (ρ : Rho) (w : World) (es : List (Value × Value × Nat)) (es' : List MapEntry) : Prop := es.length = es'.length ∧ ∀ (i : Nat) (k v : Value) (a : Nat), es[i]? = some (k, v, a) → ∃ e : MapEntry, es'[i]? = some e ∧ VR ρ w k e.key ∧ VR ρ w v e.val ∧ e.born = a
theorem ER.tail {x : Value × Value × Nat} {es : List (Value × Value × Nat)} {es' : List MapEntry} (h : ER ρ w (x :: es) es') : ∃ e r, es' = e :: r ∧ VR ρ w x.1 e.key ∧ VR ρ w x.2.1 e.val ∧ ER ρ w es r := by
  obtain ⟨e, h1, h2, h3, h4⟩ := h.2 0 x.1 x.2.1 x.2.2 rfl
  cases es' with
  | nil => cases h1
  | cons e2 r =>
    simp only [List.getElem?_cons_zero, Option.some.injEq] at h1
    subst h1
    exact ⟨_, _, rfl, h2, h3, by simpa using h.1, fun i k v a hi => h.2 (i + 1) k v a (by simpa using hi)⟩
def FR (ρ : Rho) (w : World) : Option (Nat × Value) → Option (Nat × Value) → Prop
  | none, none => True
  | some (i, v), some (j, v') => i = j ∧ VR ρ w v v'
  | _, _ => False
theorem find_ask {t : TypeId} {D : EqD} (h : keyT P t = some D) {k k' : Value} (hk : VR ρ w k k') : ∀ (es : List (Value × Value × Nat)) (es' : List MapEntry) (i : Nat) (r : Option (Nat × Value)), ER ρ w es es' → findL D k es i = some r →
    ∃ r', (Instr.findAsking t k' es' i).run P w = .ok r' w ∧ FR ρ w r r'
  | [], es', i, r, he, hf => by
    simp only [findL] at hf; cases hf
    have : es' = [] := List.length_eq_zero_iff.1 (by have := he.1; simpa using this.symm)
    subst this
    exact ⟨none, by simp [Instr.findAsking], trivial⟩
  | (k2, v, a) :: es, es', i, r, he, hf => by
    obtain ⟨e, es2, rfl, h1, h2, h3⟩ := he.tail
    simp only [findL] at hf
    split at hf
    · rename_i hq
      cases hf
      have := eqv_key (w := w) h hk h1 hq
      exact ⟨some (i, e.val), by simp [Instr.findAsking, this], rfl, h2⟩
    · rename_i hq
      obtain ⟨r', k1, k2⟩ := find_ask h hk es es2 (i + 1) r h3 hf
      have := eqv_key (w := w) h hk h1 hq
      exact ⟨r', by simp [Instr.findAsking, this, k1], k2⟩
    · cases hf
theorem find_now {t : TypeId} {q : PK} (hq : PKof P q t) {d : TypeDesc} (hd : P.underlying t = some d) {k k' : Value} (hk : VR ρ w k k') : ∀ (es : List (Value × Value × Nat)) (es' : List MapEntry) (i : Nat) (r : Option (Nat × Value)), ER ρ w es es' → findL (.prim q) k es i = some r →
    ∃ r', Instr.findNow d k' es' i = some r' ∧ FR ρ w r r'
  | [], es', i, r, he, hf => by
    simp only [findL] at hf; cases hf
    have : es' = [] := List.length_eq_zero_iff.1 (by have := he.1; simpa using this.symm)
    subst this
    exact ⟨none, rfl, trivial⟩
  | (k2, v, a) :: es, es', i, r, he, hf => by
    obtain ⟨e, es2, rfl, h1, h2, h3⟩ := he.tail
    have hsame : ∀ b, veq0 q k k2 = some b → Instr.sameNow d k' e.key = some b := by
      intro b hb
      rw [hk.prim hb, VR.prim2 h1 hb]
      rcases veq0_inv hb with ⟨e1, x, y, rfl, rfl, rfl⟩ | ⟨e1, z, x, y, rfl, rfl, rfl⟩ | ⟨e1, x, y, rfl, rfl, rfl⟩ <;> rcases hq with ⟨e2, hu⟩ | ⟨e2, q2, hu⟩ | ⟨e2, hu⟩ <;> (first | (rw [e1] at e2; cases e2; done) | skip) <;> (rw [hd] at hu; cases hu)
      · rfl
      · simp [Instr.sameNow]
      · rfl
    simp only [findL, eqv] at hf
    split at hf
    · rename_i hb
      cases hf
      exact ⟨some (i, e.val), by simp [Instr.findNow, hsame _ hb], rfl, h2⟩
    · rename_i hb
      obtain ⟨r', k1, k2⟩ := find_now hq hd hk es es2 (i + 1) r h3 hf
      exact ⟨r', by simp [Instr.findNow, hsame _ hb, k1], k2⟩
    · cases hf
theorem find_key {t : TypeId} {D : EqD} (h : keyT P t = some D) {k k' : Value} (hk : VR ρ w k k') {es : List (Value × Value × Nat)} {es' : List MapEntry} {r : Option (Nat × Value)} (he : ER ρ w es es') (hf : findL D k es 0 = some r) :
    ∃ r', (Instr.findKey t k' es').run P w = .ok r' w ∧ FR ρ w r r' := by
  rcases keyT_inv h with ⟨q, rfl, hq⟩ | ⟨n, l, rfl, hn, hl, hr, hg, hw, _⟩
  · obtain ⟨d, hd⟩ : ∃ d, P.underlying t = some d := by rcases hq with ⟨_, hu⟩ | ⟨_, _, hu⟩ | ⟨_, hu⟩ <;> exact ⟨_, hu⟩
    obtain ⟨r', h1, h2⟩ := find_now hq hd hk es es' 0 r he hf
    exact ⟨r', by simp [Instr.findKey, run_under hd, h1], h2⟩
  · obtain ⟨r', h1, h2⟩ := find_ask h hk es es' 0 r he hf
    exact ⟨r', by rw [run_findKey_eq w hw]; exact h1, h2⟩
end
end Go.Proofs.Ytbjgnogcjglcoaa.Hm
