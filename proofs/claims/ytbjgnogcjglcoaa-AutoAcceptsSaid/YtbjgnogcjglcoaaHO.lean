/- Operations that look at their operands alone, beside H's. -/
import Derived.Test.YtbjgnogcjglcoaaHS
import Derived.Laws.Strings2
namespace Go.Proofs.Ytbjgnogcjglcoaa.Hm
open Go Go.RowKit
set_option linter.all false
set_option linter.unusedSimpArgs false
section
variable {lo n0 : Nat} {w0 : World} {ρ : Rho} {h : Heap} {w : World} {P : Program}
/-! ### '==' -/
theorem nileq_vr {k : NK} {x y x' y' : Value} {r : Bool} (hx : VR ρ w x x') (hy : VR ρ w y y') (e : nileq k x y = some r) : nileq k x' y' = some r := by
  cases hx <;> cases hy <;> first | exact e | (cases k <;> first | exact e | (cases e; done))
theorem nil_run {k : NK} {t : TypeId} {x y : Value} {r : Bool} (h : eqT P t = some (.nil k)) (e : nileq k x y = some r) (n : Nat) : (Op.equalIn (n + 1) t x y).run P w = .ok r w := by
  have hu : (k = .slice ∧ ∃ z, P.underlying t = some (.slice z)) ∨ (k = .map ∧ ∃ z u, P.underlying t = some (.map z u)) ∨ (k = .func ∧ ∃ a b c, P.underlying t = some (.func a b c)) ∨ (k = .ptr ∧ ∃ z, P.underlying t = some (.pointer z)) ∨ (k = .iface ∧ ∃ z, P.underlying t = some (.interface z)) := by
    unfold eqT at h
    cases hu : P.underlying t with
    | none => simp [hu] at h
    | some d =>
      cases d <;> simp only [hu] at h <;> (try (cases h; done))
      all_goals first
        | (cases h; simp; done)
        | (split at h <;> (try (cases h; done)) <;> split at h <;> cases h)
  unfold nileq at e
  split at e <;> rcases hu with ⟨h1, z, hu⟩ | ⟨h1, z, u, hu⟩ | ⟨h1, a, b, c, hu⟩ | ⟨h1, z, hu⟩ | ⟨h1, z, hu⟩ <;> first | (cases h1; done) | (cases e; done) | (cases e; simp [Op.equalIn, run_under hu])
end
end Go.Proofs.Ytbjgnogcjglcoaa.Hm
