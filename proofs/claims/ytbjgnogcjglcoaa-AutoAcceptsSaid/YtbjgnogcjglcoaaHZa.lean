/- What an operation gives hangs on what it reads alone. -/
import Derived.Test.YtbjgnogcjglcoaaHY
namespace Go.Proofs.Ytbjgnogcjglcoaa.Hm
open Go Go.RowKit
set_option linter.all false
set_option linter.unusedSimpArgs false
section
variable {lo : Nat} {P : Program} {σ σ' : List Value} {h : Heap}
theorem xop_congr {op : HOp} (he : ∀ x ∈ op.reads, ev σ x = ev σ' x) : xop lo σ h op = xop lo σ' h op := by
  cases op <;> simp only [HOp.reads, List.mem_cons, List.not_mem_nil, or_false, forall_eq_or_imp, forall_eq] at he <;> simp only [xop]
  case build z ps =>
    have : (ps.map fun p => (p.1, p.2.1, ev σ p.2.2)) = ps.map fun p => (p.1, p.2.1, ev σ' p.2.2) := List.map_congr_left fun p hp => by rw [he p.2.2 (List.mem_map.2 ⟨p, hp, rfl⟩)]
    rw [this]
  case bslice e n z ps =>
    have : (ps.map fun p => (p.1 * e, e, ev σ p.2)) = ps.map fun p => (p.1 * e, e, ev σ' p.2) := List.map_congr_left fun p hp => by rw [he p.2 (List.mem_map.2 ⟨p, hp, rfl⟩)]
    rw [this]
  case slice e x a b c =>
    obtain ⟨h1, h2⟩ := he
    have o : ∀ q : Option Operand, (∀ y ∈ q.toList, y ∈ a.toList ++ b.toList ++ c.toList) → q.map (ev σ) = q.map (ev σ') := by
      intro q hq; cases q with
      | none => rfl
      | some y => simp [h2 y (hq y (by simp))]
    rw [h1, o a (fun y hy => by simp [hy]), o b (fun y hy => by simp [hy]), o c (fun y hy => by simp [hy])]
  case slicea n e x a b c =>
    obtain ⟨h1, h2⟩ := he
    have o : ∀ q : Option Operand, (∀ y ∈ q.toList, y ∈ a.toList ++ b.toList ++ c.toList) → q.map (ev σ) = q.map (ev σ') := by
      intro q hq; cases q with
      | none => rfl
      | some y => simp [h2 y (hq y (by simp))]
    rw [h1, o a (fun y hy => by simp [hy]), o b (fun y hy => by simp [hy]), o c (fun y hy => by simp [hy])]
  case slices x a b =>
    obtain ⟨h1, h2⟩ := he
    have o : ∀ q : Option Operand, (∀ y ∈ q.toList, y ∈ a.toList ++ b.toList) → q.map (ev σ) = q.map (ev σ') := by
      intro q hq; cases q with
      | none => rfl
      | some y => simp [h2 y (hq y (by simp))]
    rw [h1, o a (fun y hy => by simp [hy]), o b (fun y hy => by simp [hy])]
  case mkfunc f a c =>
    have e1 : a.map (ev σ) = a.map (ev σ') := List.map_congr_left fun x hx => he x (by simp [hx])
    have e2 : c.map (ev σ) = c.map (ev σ') := List.map_congr_left fun x hx => he x (by simp [hx])
    rw [e1, e2]
  all_goals first
    | rfl
    | (rw [he])
    | (rw [he.1, he.2])
    | (rw [he.1, he.2.1, he.2.2])
    | (rw [he.2.1, he.2.2.1, he.2.2.2])
theorem xoper_congr {call : Nat → List Value → Heap → Option (Value × Heap)} {op : HOp} (he : ∀ x ∈ op.reads, ev σ x = ev σ' x) : xoper call lo σ h op = xoper call lo σ' h op := by
  cases op
  case call f xs =>
    simp only [HOp.reads, List.mem_cons, forall_eq_or_imp] at he
    have : xs.map (ev σ) = xs.map (ev σ') := List.map_congr_left fun x hx => he.2 x hx
    simp only [xoper, callee, he.1, this]
  all_goals exact xop_congr (lo := lo) he
theorem parts_reads {f : Nat → Option (Nat × Nat)} : ∀ {ps : List (Nat × Operand)} {hps : List (Nat × Nat × Operand)}, partsL f ps = some hps → hps.map (·.2.2) = ps.map (·.2)
  | [], _, h => by cases h; rfl
  | (i, x) :: ps, _, h => by
    simp only [partsL] at h
    split at h
    · rename_i o s r hi hr
      split at h
      · cases h; simp [parts_reads hr]
      · cases h
    · cases h
theorem operands_reads {type : TypeId} {op : Op} {hop : HOp} (h : compOp P type op = some hop) : ∀ x ∈ op.operands.toList, x ∈ hop.reads := by
  cases op
  case call c =>
    obtain ⟨callee, args, ats⟩ := c
    cases callee with
    | value g =>
      simp only [compOp] at h
      split at h
      · split at h
        · split at h
          · rename_i x y z hxs
            cases h; intro x hx
            simp [Op.operands, Call.operands, hxs] at hx
            rcases hx with rfl | hx
            · simp [HOp.reads]
            · simp [HOp.reads]
              right; exact hx
          · cases h
        · cases h; intro x hx; simpa [Op.operands, Call.operands, HOp.reads] using hx
      · cases h
    | invoke r m => cases h
    | builtin b =>
      cases b <;> simp only [compOp] at h <;> (try (cases h; done))
      · split at h
        · rename_i s x st xt hargs hats
          obtain rfl := two hargs
          repeat' (first | (cases h; done) | split at h)
          cases h; intro x hx; simpa [Op.operands, Call.operands, HOp.reads] using hx
        · cases h
      · split at h
        · rename_i x t hargs hats
          obtain rfl := one hargs
          repeat' (first | (cases h; done) | split at h)
          all_goals (cases h; intro x hx; simpa [Op.operands, Call.operands, HOp.reads] using hx)
        · cases h
  case build t ps =>
    simp only [compOp] at h
    have key : ∀ (f : Nat → Option (Nat × Nat)) (z : List Value), (partsL f ps.toList).map (HOp.build z ·) = some hop → ∀ x ∈ (Op.build t ps).operands.toList, x ∈ hop.reads := by
      intro f z hp
      obtain ⟨hps, h1, rfl⟩ := Option.map_eq_some_iff.1 hp
      intro x hx
      simp only [HOp.reads, parts_reads h1]
      simpa [Op.operands] using hx
    repeat' (first | (cases h; done) | exact key _ _ h | split at h)
  case buildSlice t n ps =>
    simp only [compOp] at h
    repeat' (first | (cases h; done) | split at h)
    cases h; intro x hx; simpa [Op.operands, HOp.reads] using hx
  case makeFunc fn a c =>
    cases fn <;> simp only [compOp] at h <;> (try (cases h; done))
    split at h
    · cases h; intro x hx; simpa [Op.operands, HOp.reads] using hx
    · cases h
  case makeMap t r =>
    cases r with
    | none => cases h; intro x hx; simp [Op.operands] at hx
    | some y => cases h
  case slice t x a b c =>
    simp only [compOp] at h
    split at h
    · repeat' (first | (cases h; done) | split at h)
      all_goals first
        | (obtain ⟨s, _, rfl⟩ := Option.map_eq_some_iff.1 h; intro y hy; simpa [Op.operands, HOp.reads, or_assoc] using hy)
        | (rename_i hn; cases h; cases c <;> simp_all [Op.operands, HOp.reads, or_assoc])
    · cases h
  all_goals first
    | (cases h; done)
    | (simp only [compOp] at h
       repeat' (first | (cases h; done) | split at h)
       all_goals first
         | (cases h; intro x hx; simpa [Op.operands, HOp.reads] using hx)
         | (obtain ⟨s, _, rfl⟩ := Option.map_eq_some_iff.1 h; intro x hx; simpa [Op.operands, HOp.reads] using hx))
theorem mem_tmps {x : Operand} {xs : List Operand} {t : Nat} (hx : x ∈ xs) (ht : x = .tmp t) : t ∈ tmpsOf xs := by
  subst ht; exact List.mem_filterMap.2 ⟨.tmp t, hx, rfl⟩
end
end Go.Proofs.Ytbjgnogcjglcoaa.Hm
