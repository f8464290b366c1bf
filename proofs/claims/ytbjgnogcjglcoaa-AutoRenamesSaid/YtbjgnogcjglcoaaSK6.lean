/- The sorted edges, plainly. -/
import Derived.Test.YtbjgnogcjglcoaaSK4
namespace Go.Proofs.Ytbjgnogcjglcoaa.Hm
open Go
set_option linter.all false
theorem leT_iff (x y : FT) : leT x y = true ↔ ¬ ltT y x := by
  unfold leT
  rw [← cfT_dec]
  cases decide (cfT y x < 0) <;> simp
theorem sortT_perm (l : List FT) : (l.mergeSort leT).Perm l := List.mergeSort_perm l leT
theorem sortT_sorted (l : List FT) : (l.mergeSort leT).Pairwise fun x y => ¬ ltT y x := by
  have h := List.pairwise_mergeSort (le := leT) (fun a b c h1 h2 => by
    rw [leT_iff] at *
    revert h1 h2; unfold ltT; omega) (fun a b => by
    rw [Bool.or_eq_true, leT_iff, leT_iff]
    unfold ltT; omega) l
  exact h.imp fun hx => (leT_iff _ _).1 hx
theorem sortT_mem {l : List FT} {x : FT} : x ∈ l.mergeSort leT ↔ x ∈ l := (sortT_perm l).mem_iff
end Go.Proofs.Ytbjgnogcjglcoaa.Hm
