/- Of layer 27: far, run. -/
import Derived.Test.YtbjgnogcjglcoaaHF
import Derived.Test.YtbjgnogcjglcoaaA6
import Derived.Test.YtbjgnogcjglcoaaVP3
namespace Go.Proofs.Ytbjgnogcjglcoaa.Hm.V
open Go
set_option linter.all false
set_option maxRecDepth 100000
attribute [local irreducible] X S R D W Call Upd Rds Rck Sees Res Cel CallP fnQ
theorem Has.refl : ∀ O : List Pt, Has O O
  | [] => .nil
  | .box b cs :: O => .box .here rfl (Has.refl O)
  | .arr v e c xs :: O => .arr .here rfl (Has.refl O)
  | .gro v e xs :: O => .gro .here rfl (Has.refl O)
  | .map v es :: O => .map .here rfl (Has.refl O)
theorem hRest {O L : List Pt} (h : O = L) : Has O L := h ▸ Has.refl O
theorem uGL0 {lo : Nat} {P : List Pt} {Z : Vw} {K : Vw → List Pt → Prop} : ∀ (n : Nat), Upd lo Z (P ++ grosL (List.replicate n (.slice none 0 0)) (List.replicate n [])) K → Upd lo Z P K
  | 0, k => by
    have : P ++ grosL (List.replicate 0 (.slice none 0 0)) (List.replicate 0 []) = P := by simp [grosL]
    rwa [this] at k
  | n + 1, k => uGL0 n (Upd.gro0 (e := 1) (by decide) (Upd.perm (by
      show (Pt.gro _ 1 _ :: (P ++ _)).Perm (P ++ (Pt.gro _ 1 _ :: _))
      exact List.perm_middle.symm) k))
/-- Parts that end with a list of growing slices. -/
class TailL (O : List Pt) (ws : outParam (List Value)) (ls : outParam (List (List Int))) (f : outParam (List Value → List (List Int) → List Pt)) : Prop where
  out : O = f ws ls
  at_ : ∀ {k : Nat}, ws.length = ls.length → k < ws.length → ∃ F g, At O (.gro (ws.getD k default) 1 ((ls.getD k default).map cI)) F g ∧ ∀ v l, F (.gro v 1 (l.map cI)) = f (ws.set k v) (ls.set k l)
instance TailL.here {ws : List Value} {ls : List (List Int)} : TailL (grosL ws ls) ws ls grosL := ⟨rfl, atL⟩
instance TailL.there {x : Pt} {O : List Pt} {ws : List Value} {ls : List (List Int)} {f : List Value → List (List Int) → List Pt} [t : TailL O ws ls f] : TailL (x :: O) ws ls (fun ws ls => x :: f ws ls) := ⟨by rw [t.out], fun h hk => by
  obtain ⟨F, g, h1, h2⟩ := t.at_ h hk
  exact ⟨_, _, .there h1, fun v l => by rw [h2]⟩⟩
section
variable {F : Nat → Option HFn} {lo N : Nat} {A : Tab} {Z : Vw} {O : List Pt} {K : Value → Vw → List Pt → Prop} {x y : Operand} {v w : Value}
/-- One of the slices grows. -/
theorem xApL {ws : List Value} {ls : List (List Int)} {f : List Value → List (List Int) → List Pt} {k bytes : Nat} {ys : List (List Value)} (n : Int) [t : TailL O ws ls f] [s : Se Z O w 1 ys] (hl : ws.length = ls.length) (hk : k < ws.length) (hs : evA A x = some (ws.getD k default)) (hx : evA A y = some w) (hy : ys = [cI n]) (hb : ((ls.getD k default).length + 1) * bytes ≤ 2 ^ 44)
    (kk : ∀ v', K v' Z (f (ws.set k v') (ls.set k (ls.getD k default ++ [n])))) : X F lo (.append 1 bytes x y) N A Z O K := by
  obtain ⟨f', g, h1, h2⟩ := t.at_ hl hk
  subst hy
  refine X_appendG hs hx h1 s.out (by rw [List.length_map]; exact hb) fun v' => ?_
  have e : (ls.getD k default).map cI ++ [cI n] = (ls.getD k default ++ [n]).map cI := by rw [List.map_append]; rfl
  rw [e, h2]
  exact kk v'
/-- The grown slice is put into its place. -/
theorem xStL {ws : List Value} {ls : List (List Int)} {f : List Value → List (List Int) → List Pt} {k c : Nat} {us : List Value} {f2 : Pt → List Pt} {g : List Pt} [t : TailL O ws ls f] [q : AtA O v 1 c (us.map cV) f2 g] (hl : ws.length = ls.length) (hk : k < ws.length) (hv : ws.getD k default = w) (ha : evA A x = some (.pointer (some ⟨bb v, oo v + k * 1, none⟩))) (hy : evA A y = some w) (hu : us.length = ws.length)
    (kk : K undef Z (f2 (.arr v 1 c ((us.set k w).map cV)))) : X F lo (.store 1 x y) N A Z O K := by
  obtain ⟨f', g', h1, h2⟩ := t.at_ hl hk
  subst hv
  refine X_storeArr0C ha hy (.sees (.gro h1)) rfl q.out (map_at (by omega)) rfl ?_
  have e : (us.map cV).set k [ws.getD k default] = (us.set k (ws.getD k default)).map cV := by rw [List.map_set]; rfl
  rw [e]; exact kk
end
theorem uTL {lo : Nat} {O : List Pt} {Z : Vw} {K : Vw → List Pt → Prop} {ws : List Value} {ls : List (List Int)} {f : List Value → List (List Int) → List Pt} (P : List Pt) (hO : O = P ++ grosL ws ls) (hl : ws.length = ls.length) (k : ∀ Z', ZL Z Z' → (∀ k, k < ws.length → Ints Z' (ws.getD k default) (ls.getD k default)) → Upd lo Z' P K) : Upd lo Z O K := by
  subst hO
  exact uGL hl fun Z' hz h => k Z' ⟨hz⟩ h
theorem inL_take {g : List Ed} {i q : Nat} (h : i < g.length) : inL (g.take (i + 1)) q = if (g.getD i default).t.toNat = q then inL (g.take i) q ++ [(g.getD i default).f] else inL (g.take i) q := by
  unfold inL
  rw [List.take_succ, getD_at h, List.filter_append, List.map_append]
  generalize g.getD i default = y
  by_cases e : y.t.toNat = q
  · rw [if_pos e]; simp [e]
  · rw [if_neg e]; simp [e]
def intoL (S : Nat) (g : List Ed) : List (List Int) := (List.range S).map fun q => inL g q
theorem intoL_len (S : Nat) (g : List Ed) : (intoL S g).length = S := by simp [intoL]
theorem intoL_at {S : Nat} {g : List Ed} {q : Nat} (h : q < S) : (intoL S g).getD q default = inL g q := by
  rw [getD_eq (by rw [intoL_len]; exact h)]; simp [intoL]
theorem intoL_step {S : Nat} {g : List Ed} {i : Nat} (h : i < g.length) (ht : (g.getD i default).t.toNat < S) : (intoL S (g.take i)).set (g.getD i default).t.toNat ((intoL S (g.take i)).getD (g.getD i default).t.toNat default ++ [(g.getD i default).f]) = intoL S (g.take (i + 1)) := by
  rw [intoL_at ht]
  apply List.ext_getElem
  · simp [intoL]
  · intro q h1 h2
    rw [List.getElem_set]
    have hq : q < S := by rw [intoL_len] at h2; exact h2
    have e1 : (intoL S (g.take (i + 1)))[q] = inL (g.take (i + 1)) q := by simp [intoL]
    rw [e1, inL_take h]
    split
    · rename_i e; rw [e]
    · rename_i e; simp [intoL]
theorem inL_len (g : List Ed) (q : Nat) : (inL g q).length ≤ g.length := by
  unfold inL; rw [List.length_map]; exact List.length_filter_le _ _
end Go.Proofs.Ytbjgnogcjglcoaa.Hm.V
