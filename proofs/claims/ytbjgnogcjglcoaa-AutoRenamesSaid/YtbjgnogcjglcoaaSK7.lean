/- What slices.Compact makes of a list, plainly. -/
import Derived.Test.YtbjgnogcjglcoaaSK6
namespace Go.Proofs.Ytbjgnogcjglcoaa.Hm
open Go
set_option linter.all false
/-- Of the first so many elements those that differ from the one before. -/
def cpt {α : Type} [DecidableEq α] [Inhabited α] (l : List α) : Nat → List α
  | 0 => []
  | i + 1 => if 0 < i ∧ l.getD i default = l.getD (i - 1) default then cpt l i else cpt l i ++ [l.getD i default]
theorem cpt_len {α : Type} [DecidableEq α] [Inhabited α] (l : List α) : ∀ i, (cpt l i).length ≤ i
  | 0 => Nat.le_refl _
  | i + 1 => by
    have := cpt_len l i
    rw [cpt]
    split
    · omega
    · rw [List.length_append, List.length_singleton]; omega
theorem cpt_mem {α : Type} [DecidableEq α] [Inhabited α] {l : List α} {x : α} : ∀ {i : Nat}, x ∈ cpt l i ↔ ∃ j, j < i ∧ l.getD j default = x
  | 0 => by simp [cpt]
  | i + 1 => by
    have ih := cpt_mem (l := l) (x := x) (i := i)
    rw [cpt]
    split
    · rename_i h
      rw [ih]
      constructor
      · rintro ⟨j, h1, h2⟩; exact ⟨j, by omega, h2⟩
      · rintro ⟨j, h1, h2⟩
        rcases Nat.lt_or_ge j i with h3 | h3
        · exact ⟨j, h3, h2⟩
        · obtain rfl : j = i := by omega
          exact ⟨j - 1, by omega, by rw [← h.2]; exact h2⟩
    · rw [List.mem_append, ih, List.mem_singleton]
      constructor
      · rintro (⟨j, h1, h2⟩ | rfl)
        · exact ⟨j, by omega, h2⟩
        · exact ⟨i, by omega, rfl⟩
      · rintro ⟨j, h1, h2⟩
        rcases Nat.lt_or_ge j i with h3 | h3
        · exact .inl ⟨j, h3, h2⟩
        · obtain rfl : j = i := by omega
          exact .inr h2.symm
theorem cpt_strict {α : Type} [DecidableEq α] [Inhabited α] {l : List α} {lt : α → α → Prop} (hs : ∀ j k, j < k → k < l.length → ¬ lt (l.getD k default) (l.getD j default)) (ht : ∀ a b, ¬ lt a b → ¬ lt b a → a = b) (hn : ∀ a b c, ¬ lt a b → ¬ lt b c → ¬ lt a c) :
    ∀ i, i ≤ l.length → (cpt l i).Pairwise lt
  | 0, _ => .nil
  | i + 1, hi => by
    have ih := cpt_strict hs ht hn i (by omega)
    rw [cpt]
    split
    · exact ih
    · rename_i h
      refine List.pairwise_append.2 ⟨ih, List.pairwise_singleton _ _, fun x hx y hy => ?_⟩
      rw [List.mem_singleton.1 hy]
      obtain ⟨j, hj, rfl⟩ := cpt_mem.1 hx
      apply Classical.byContradiction
      intro hc
      apply h
      refine ⟨by omega, ?_⟩
      have h1 := hs j i hj (by omega)
      have h2 : ¬ lt (l.getD (i - 1) default) (l.getD i default) := by
        rcases Nat.lt_or_ge j (i - 1) with h3 | h3
        · exact hn _ _ _ (hs j (i - 1) h3 (by omega)) hc
        · obtain rfl : j = i - 1 := by omega
          exact hc
      exact ht _ _ (hs (i - 1) i (by omega) (by omega)) h2
end Go.Proofs.Ytbjgnogcjglcoaa.Hm
