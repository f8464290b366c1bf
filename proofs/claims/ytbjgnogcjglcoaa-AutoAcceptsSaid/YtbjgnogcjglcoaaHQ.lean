/- Operations that look at their operands alone, beside H's (more of them). -/
import Derived.Test.YtbjgnogcjglcoaaHO
namespace Go.Proofs.Ytbjgnogcjglcoaa.Hm
open Go Go.RowKit
set_option linter.all false
set_option linter.unusedSimpArgs false
section
variable {lo n0 : Nat} {w0 : World} {ρ : Rho} {h : Heap} {w : World} {P : Program}
theorem eqGuard_ok {op : BinOp} {t : TypeId} {ox oy : Operand} {a b : Value} (h1 : ∀ cs, a ≠ .agg cs) (h2 : a ≠ .nilIface ∨ b ≠ .nilIface) : (eqGuard op t ox oy a b).run P w = .ok () w := by
  cases a <;> first | exact absurd rfl (h1 _) | (cases op <;> simp [eqGuard]; done) | (cases b <;> first | (rcases h2 with h2 | h2 <;> exact absurd rfl h2) | (cases op <;> simp [eqGuard]; done))
theorem run_eq {neg : Bool} {t : TypeId} {ox oy : Operand} {x y : Value} {r : Bool} (hg : (eqGuard (if neg then .neq else .eql) t ox oy x y).run P w = .ok () w)
    (hb : binOp (if neg then .neq else .eql) t x y = if neg then (do pure (.bool (!(← Op.equal t x y)))) else (do pure (.bool (← Op.equal t x y)))) (he : (Op.equal t x y).run P w = .ok r w) :
    (do eqGuard (if neg then .neq else .eql) t ox oy x y; binOp (if neg then .neq else .eql) t x y).run P w = .ok (.bool (if neg then !r else r)) w := by
  rw [Sem.run_bind, hg]
  simp only [Result.andThen_ok, hb]
  cases neg <;> simp [he]
theorem good_eq {neg : Bool} {t : TypeId} {D : EqD} (hD : eqT P t = some D) (hprim : ∀ k, D = .prim k → P.underlying t = some .bool) {ox oy : Operand} {x y x' y' : Value} {r : Bool} (hx : VR ρ w x x') (hy : VR ρ w y y') (e : eqv D x y = some r) :
    (do eqGuard (if neg then .neq else .eql) t ox oy x' y'; binOp (if neg then .neq else .eql) t x' y').run P w = .ok (.bool (if neg then !r else r)) w := by
  cases D with
  | prim k =>
    have hu := hprim k rfl
    simp only [eqv] at e
    rw [hx.prim e, hy.prim2 e]
    have hk : k = .bool := by
      unfold eqT at hD; rw [hu] at hD; cases hD; rfl
    subst hk
    rcases veq0_inv e with ⟨_, a, b, rfl, rfl, rfl⟩ | ⟨e1, _⟩ | ⟨e1, _⟩
    · refine run_eq (eqGuard_ok (fun _ => by simp) (.inl (by simp))) ?_ (eq_prim e (.inl ⟨rfl, hu⟩))
      cases neg <;> rfl
    · cases e1
    · cases e1
  | nil k =>
    simp only [eqv] at e
    have e2 := nileq_vr hx hy e
    have h3 := nil_run (P := P) (w := w) hD e2 9999
    have hshape : (∀ cs, x' ≠ .agg cs) ∧ (x' ≠ .nilIface ∨ y' ≠ .nilIface) ∧ (∀ (neg : Bool), binOp (if neg then .neq else .eql) t x' y' = if neg then (do pure (.bool (!(← Op.equal t x' y')))) else (do pure (.bool (← Op.equal t x' y')))) := by
      unfold nileq at e2
      split at e2 <;> first
        | (cases e2; done)
        | exact ⟨fun _ => by simp, by simp, fun neg => by cases neg <;> rfl⟩
    exact run_eq (eqGuard_ok hshape.1 hshape.2.1) (hshape.2.2 neg) h3
  | cells n l =>
    obtain ⟨hl, hg, hgt⟩ := eqT_cells hD
    cases x <;> simp only [eqv] at e <;> (try (cases e; done))
    cases y <;> simp only [eqv] at e <;> (try (cases e; done))
    split at e
    · obtain ⟨xs', rfl, hx', _⟩ := hx.of_agg
      obtain ⟨ys', rfl, hy', _⟩ := hy.of_agg
      have h3 := eq_leaves (P := P) (w := w) xs'.toList ys'.toList 20 t 0 l hl 10000 (by omega) _ _ r (view_whole hg) (view_whole hg) (eqcells_vr hx' hy' l r e)
      refine run_eq (run_eqGuard_agg w _ t ox oy xs' ys' hgt) ?_ h3
      cases neg <;> rfl
    · cases e
theorem good_un {op : UnOp} {x x' v : Value} (hx : VR ρ w x x') (e : pureRun (Op.unary op x) = some v) : (Op.unary op x').run P w = .ok v w ∧ VR ρ w v v := by
  cases x <;> cases op <;> first
    | (cases e; done)
    | (cases hx; done)
    | (cases hx; refine ⟨pureRun_ok e, ?_⟩; simp only [Op.unary, Op.intArith, Op.intBits] at e; cases e; first | exact .int _ _ | exact .bool _)
    | (rename_i a; cases a <;> cases e)
/-! ### slices of slices -/
theorem seen_run {x x' : Option Value} (hx : match x, x' with | none, none => True | some a, some b => VR ρ w a b | _, _ => False) {d m : Nat} (e : seen x d = some m) :
    (x = none ∧ x' = none ∧ m = d) ∨ ∃ k i, x = some (.int k i) ∧ x' = some (.int k i) ∧ 0 ≤ i ∧ i.toNat = m := by
  cases x with
  | none => cases x' with
    | none => cases e; exact .inl ⟨rfl, rfl, rfl⟩
    | some b => exact hx.elim
  | some a =>
    cases x' with
    | none => exact hx.elim
    | some b =>
      cases a <;> simp only [seen] at e <;> (try (cases e; done))
      split at e
      · cases e; cases hx; exact .inr ⟨_, _, rfl, rfl, by assumption, rfl⟩
      · cases e
theorem run_bound {k : IntKind} {i : Int} {y : Nat} {c : BoundsCode} (h0 : 0 ≤ i) (h1 : i.toNat ≤ y) : (Instr.sliceBound (.int k i) y c).run P w = .ok i.toNat w := by
  unfold Instr.sliceBound
  rw [Sem.run_bind]
  simp only [asIntOf, Sem.run_pure, Result.andThen_ok]
  rw [if_pos ⟨h0, by omega⟩]; rfl
theorem run_bounds {isS : Bool} {len cap cap' m hh l : Nat} {lo' hi' mx' lo2 hi2 mx2 : Option Value}
    (hl : (lo' = none ∧ lo2 = none ∧ l = 0) ∨ ∃ k i, lo' = some (.int k i) ∧ lo2 = some (.int k i) ∧ 0 ≤ i ∧ i.toNat = l)
    (hh' : (hi' = none ∧ hi2 = none ∧ hh = len) ∨ ∃ k i, hi' = some (.int k i) ∧ hi2 = some (.int k i) ∧ 0 ≤ i ∧ i.toNat = hh)
    (hm : (mx' = none ∧ mx2 = none ∧ m = cap) ∨ ∃ k i, mx' = some (.int k i) ∧ mx2 = some (.int k i) ∧ 0 ≤ i ∧ i.toNat = m) (hmx : mx' = none ∨ hi' ≠ none) (h1 : m ≤ cap) (h2 : hh ≤ m) (h3 : l ≤ hh) (hc : cap ≤ cap') :
    (Instr.sliceBounds isS len cap' lo2 hi2 mx2).run P w = .ok (l, hh, if mx2.isSome then m else cap') w := by
  unfold Instr.sliceBounds
  rcases hm with ⟨rfl, rfl, rfl⟩ | ⟨k, i, rfl, rfl, hi0, rfl⟩
  · rcases hh' with ⟨rfl, rfl, rfl⟩ | ⟨k2, i2, rfl, rfl, hi2, rfl⟩ <;> rcases hl with ⟨rfl, rfl, rfl⟩ | ⟨k3, i3, rfl, rfl, hi3, rfl⟩ <;>
      simp [run_bound, *, Nat.le_trans h2 hc]
  · rcases hmx with hmx | hmx
    · cases hmx
    · rcases hh' with ⟨rfl, rfl, rfl⟩ | ⟨k2, i2, rfl, rfl, hi2, rfl⟩
      · exact absurd rfl hmx
      · have := Nat.le_trans h1 hc
        rcases hl with ⟨rfl, rfl, rfl⟩ | ⟨k3, i3, rfl, rfl, hi3, rfl⟩ <;> simp [run_bound, *]
/-- How an operand that need not be there is told. -/
def OR (ρ : Rho) (w : World) : Option Value → Option Value → Prop
  | none, none => True
  | some a, some b => VR ρ w a b
  | _, _ => False
theorem slice_core {esz b o len cap len' cap' : Nat} {a' : Addr} {e : Option Nat} {lo1 hi1 mx1 lo2 hi2 mx2 : Option Value} {v : Value} (hV : VR ρ w (.slice (some ⟨b, o, e⟩) len cap) (.slice (some a') len' cap'))
    (hlo : OR ρ w lo1 lo2) (hhi : OR ρ w hi1 hi2) (hmx : OR ρ w mx1 mx2) (hm : mx1 = none ∨ hi1 ≠ none) (hv : sliceOf esz (.slice (some ⟨b, o, e⟩) len cap) lo1 hi1 mx1 = some v) (isS : Bool) :
    ∃ l hh m, (Instr.sliceBounds isS len' cap' lo2 hi2 mx2).run P w = .ok (l, hh, m) w ∧ VR ρ w v (.slice (some (if m = l then a' else a'.add (l * esz))) (hh - l) (m - l)) := by
  unfold sliceOf at hv
  simp only at hv
  split at hv
  · cases hv
  · rename_i m hm1
    split at hv
    · rename_i hmc
      split at hv
      · rename_i hh l hh1 hl1
        split at hv
        · rename_i hle
          have k1 := seen_run (ρ := ρ) (w := w) (x := mx1) (x' := mx2) (by cases mx1 <;> cases mx2 <;> exact hmx) hm1
          have k2 := seen_run (ρ := ρ) (w := w) (x := hi1) (x' := hi2) (by cases hi1 <;> cases hi2 <;> exact hhi) hh1
          have k3 := seen_run (ρ := ρ) (w := w) (x := lo1) (x' := lo2) (by cases lo1 <;> cases lo2 <;> exact hlo) hl1
          cases hV with
          | sle _ r s0 _ _ _ hρ =>
            refine ⟨l, hh, _, run_bounds k3 k2 k1 hm hmc hle.1 hle.2 (Nat.le_refl _), ?_⟩
            have hmm : (if mx2.isSome = true then m else cap) = m := by
              rcases k1 with ⟨_, rfl, rfl⟩ | ⟨_, _, _, rfl, _⟩ <;> simp
            rw [hmm]
            cases hv
            by_cases hml : m = l
            · rw [if_pos hml, if_pos hml]; exact .sle _ _ _ _ _ _ hρ
            · rw [if_neg hml, if_neg hml]; rw [add_off, Nat.add_assoc]; exact .sle _ _ _ _ _ _ hρ
          | sez _ _ _ =>
            have : m = 0 ∧ hh = 0 ∧ l = 0 := by omega
            obtain ⟨rfl, rfl, rfl⟩ := this
            refine ⟨0, 0, _, run_bounds k3 k2 k1 hm hmc hle.1 hle.2 (Nat.le_refl _), ?_⟩
            have hmm : (if mx2.isSome = true then 0 else 0) = 0 := by simp
            rw [hmm]
            cases hv
            simp only [if_true]
            exact .sez _ _ _
          | sli _ r s0 _ _ _ _ z hρ hc hr =>
            simp only at hv
            split at hv
            · rename_i hz
              subst hz
              rcases k1 with ⟨rfl, rfl, rfl⟩ | ⟨k, i, rfl, rfl, hi0, hi1'⟩
              · refine ⟨l, hh, _, run_bounds k3 k2 (.inl ⟨rfl, rfl, rfl⟩) hm hmc hle.1 hle.2 hc, ?_⟩
                simp only [Option.isSome_none, Bool.false_eq_true, if_false]
                cases hv
                by_cases hml : cap' = l
                · rw [if_pos hml]
                  have h1 : cap' - l = 0 := by omega
                  have h2 : hh - l = 0 := by omega
                  have h3 : m - l = 0 := by omega
                  rw [h1, h2, h3]; exact .slz _ _ _ _ _ _ hρ
                · rw [if_neg hml, add_off, Nat.add_assoc]
                  refine .sli _ _ _ _ _ _ _ _ hρ (by omega) ?_
                  have : l * z + (cap' - l) * z = cap' * z := by rw [← Nat.add_mul]; congr 1; omega
                  omega
              · refine ⟨l, hh, _, run_bounds k3 k2 (.inr ⟨k, i, rfl, rfl, hi0, hi1'⟩) hm hmc hle.1 hle.2 hc, ?_⟩
                simp only [Option.isSome_some, if_true]
                cases hv
                by_cases hml : m = l
                · rw [if_pos hml, if_pos hml]; exact .sle _ _ _ _ _ _ hρ
                · rw [if_neg hml, if_neg hml, add_off, Nat.add_assoc]; exact .sle _ _ _ _ _ _ hρ
            · cases hv
          | slz _ _ z _ s0 _ hρ =>
            have : m = 0 ∧ hh = 0 ∧ l = 0 := by omega
            obtain ⟨rfl, rfl, rfl⟩ := this
            refine ⟨0, 0, _, run_bounds k3 k2 k1 hm hmc hle.1 hle.2 (Nat.le_refl _), ?_⟩
            have hmm : (if mx2.isSome = true then 0 else 0) = 0 := by simp
            rw [hmm]
            simp only [if_true] at hv ⊢
            split at hv
            · split at hv
              · cases hv; exact .sez _ _ _
              · cases hv; exact .slz _ _ _ _ _ _ hρ
            · cases hv
        · cases hv
      · cases hv
    · cases hv
end
end Go.Proofs.Ytbjgnogcjglcoaa.Hm
