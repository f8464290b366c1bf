/- Of layer 27: a list of growing slices. -/
import Derived.Test.YtbjgnogcjglcoaaHF
import Derived.Test.YtbjgnogcjglcoaaA6
import Derived.Test.YtbjgnogcjglcoaaVH4
namespace Go.Proofs.Ytbjgnogcjglcoaa.Hm.V
open Go
set_option linter.all false
set_option maxRecDepth 100000
attribute [local irreducible] X S R D W Call Upd Rds Rck Sees Res Cel CallP fnQ
/-- Growing slices, as many as there are values. -/
def grosL : List Value → List (List Int) → List Pt
  | w :: ws, l :: ls => .gro w 1 (l.map cI) :: grosL ws ls
  | _, _ => []
theorem atL : ∀ {ws : List Value} {ls : List (List Int)} {k : Nat}, ws.length = ls.length → k < ws.length →
    ∃ f g, At (grosL ws ls) (.gro (ws.getD k default) 1 ((ls.getD k default).map cI)) f g ∧ ∀ v l, f (.gro v 1 (l.map cI)) = grosL (ws.set k v) (ls.set k l)
  | w :: ws, l :: ls, 0, _, _ => ⟨_, _, .here, fun v l' => rfl⟩
  | w :: ws, l :: ls, k + 1, h, hk => by
    obtain ⟨f, g, h1, h2⟩ := atL (ws := ws) (ls := ls) (k := k) (by simpa using h) (by simpa using hk)
    exact ⟨_, _, .there h1, fun v l' => by
      show _ :: f _ = _
      rw [h2]; rfl⟩
  | [], _, _, _, hk => absurd hk (by simp)
  | w :: ws, [], _, h, _ => absurd h (by simp)
/-- All of them are frozen. -/
theorem uGL {lo : Nat} {P : List Pt} {K : Vw → List Pt → Prop} : ∀ {ws : List Value} {ls : List (List Int)} {Z : Vw}, ws.length = ls.length → (∀ Z', Z.le Z' → (∀ k, k < ws.length → Ints Z' (ws.getD k default) (ls.getD k default)) → Upd lo Z' P K) → Upd lo Z (P ++ grosL ws ls) K
  | [], ls, Z, h, k => by
    have : P ++ grosL [] ls = P := by simp [grosL]
    rw [this]
    exact k Z (.refl _) fun j hj => absurd hj (by simp)
  | w :: ws, [], _, h, _ => absurd h (by simp)
  | w :: ws, l :: ls, Z, h, k => by
    refine Upd.perm (O' := .gro w 1 (l.map cI) :: (P ++ grosL ws ls)) (by
      show (P ++ (.gro w 1 (l.map cI) :: grosL ws ls)).Perm _
      exact List.perm_middle) ?_
    refine Upd.gro .here fun Z1 hz1 hf => ?_
    refine uGL (by simpa using h) fun Z2 hz2 h2 => k Z2 (hz1.trans hz2) fun j hj => ?_
    match j with
    | 0 => exact hf.le hz2
    | j + 1 => exact h2 j (by simpa using hj)
end Go.Proofs.Ytbjgnogcjglcoaa.Hm.V
