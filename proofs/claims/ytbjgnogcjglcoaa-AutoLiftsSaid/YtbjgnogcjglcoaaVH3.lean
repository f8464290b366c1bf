/- Of layer 27: slices.Clone. -/
import Derived.Test.YtbjgnogcjglcoaaHF
import Derived.Test.YtbjgnogcjglcoaaA6
import Derived.Test.YtbjgnogcjglcoaaVH2
namespace Go.Proofs.Ytbjgnogcjglcoaa.Hm.V
open Go
set_option linter.all false
set_option maxRecDepth 100000
attribute [local irreducible] X S R D W Call Upd Rds Rck Sees Res Cel CallP fnQ
section
variable {F : Nat → Option HFn} {lo N : Nat} {A : Tab} {Z Z0 : Vw} {O : List Pt} {K : Value → Vw → List Pt → Prop} {x y : Operand} {v : Value} {e : Nat} {xs : List (List Value)}
/-- Is a slice that stands nil? -/
theorem xNilZ [fz : FzL Z e v xs] (hx : evA A x = some v) (hy : evA A y = some (.slice none 0 0)) (kt : v = .slice none 0 0 → xs = [] → K (.bool true) Z O) (kf : K (.bool false) Z O) : X F lo (.eq false (.nil .slice) x y) N A Z O K := by
  rcases fz.out.out with ⟨h1, h2⟩ | ⟨b, o, s, c, cs, h1, _⟩
  · subst h1
    exact X_eq hx hy (t := true) rfl (kt rfl h2)
  · subst h1
    exact X_eq hx hy (t := false) rfl kf
end
set_option maxHeartbeats 4000000 in
theorem Clone1_ok (lo : Nat) {Z : Vw} {v : Value} {l : List Int} [hl : FzL Z 1 v (l.map cI)] (hlen : l.length ≤ 1000000) : CallP F lo 72 [v] Z fun r Z' => Fz Z' 1 r (l.map cI) := by
  have hl := hl.out
  refine FnP (fn := c72) rfl rfl rfl ?_
  (refine W_seq ?_; (refine W_rgn ?_; ((refine Ra rfl (X_mv rfl ?_)) <;> (refine R_nil ?_))) <;> ((refine thenQ_nrm ?_; (refine W_seq ?_; (refine W_seq ?_; (refine W_rgn ?_; ((refine Ra rfl (X_mv rfl ?_)) <;> (refine Ra rfl (xNilZ rfl rfl (fun hv hx => ?_) ?_)) <;> (refine R_nil ?_))) <;> ((refine thenQ_nrm ?_; (refine W_cond rfl (fun ht => ?_) (fun ht => ?_) <;> (first | exact absurd ht (by decide) | (refine W_seq ?_; (refine W_rgn ?_; ((refine Ra rfl (X_mv rfl ?_)) <;> (refine R_nil ?_))) <;> ((refine thenQ_nrm ?_; (refine W_ret ?_)))) | (refine W_skip ?_)))))) <;> (first | refine thenQ_ret ?_ | (refine thenQ_nrm ?_; (refine W_seq ?_; (refine W_rgn ?_; ((refine Ra rfl (X_bsliceC Parts.nil rfl rfl rfl (fun v5 => ?_)); (rcases Nat.eq_zero_or_pos l.length with hl0 | hl0)) <;> (refine Ra rfl (X_mv rfl ?_)) <;> (first | (refine Ra rfl (xApA (xs := []) (c := 0) rfl rfl rfl (by simp only [List.length_map, List.length_nil]; omega) (by simp only [List.length_map, List.length_nil]; omega) (fun v7 => ?_))) | (refine Ra rfl (xApR (xs := []) (c := 0) rfl rfl (by simp only [List.length_map, List.length_nil]; omega) (fun v7 => ?_)))) <;> (refine Ra rfl (X_mv rfl ?_)) <;> (refine R_nil ?_))) <;> ((refine thenQ_nrm ?_; (refine W_ret ?_))))))))))
  <;> (refine fn_ret (Res.tmp rfl Res.nil) ?_)
  all_goals first
    | (have hl9 : l = [] := by simpa using hx
       subst hl9
       exact Upd.nil ⟨rfl, Fz.nil _ _⟩)
    | exact uG v7 fun Z9 hz9 hf => Upd.nil ⟨rfl, hf⟩
    | exact uA v7 fun Z9 hz9 hf => Upd.nil ⟨rfl, hf⟩
set_option maxHeartbeats 4000000 in
theorem Clone3_ok (lo : Nat) {Z : Vw} {v : Value} {l : List Ed} [hl : FzL Z 3 v (l.map Ed.c)] (hlen : l.length ≤ 1000000) : CallP F lo 73 [v] Z fun r Z' => Fz Z' 3 r (l.map Ed.c) := by
  have hl := hl.out
  refine FnP (fn := c73) rfl rfl rfl ?_
  (refine W_seq ?_; (refine W_rgn ?_; ((refine Ra rfl (X_mv rfl ?_)) <;> (refine R_nil ?_))) <;> ((refine thenQ_nrm ?_; (refine W_seq ?_; (refine W_seq ?_; (refine W_rgn ?_; ((refine Ra rfl (X_mv rfl ?_)) <;> (refine Ra rfl (xNilZ rfl rfl (fun hv hx => ?_) ?_)) <;> (refine R_nil ?_))) <;> ((refine thenQ_nrm ?_; (refine W_cond rfl (fun ht => ?_) (fun ht => ?_) <;> (first | exact absurd ht (by decide) | (refine W_seq ?_; (refine W_rgn ?_; ((refine Ra rfl (X_mv rfl ?_)) <;> (refine R_nil ?_))) <;> ((refine thenQ_nrm ?_; (refine W_ret ?_)))) | (refine W_skip ?_)))))) <;> (first | refine thenQ_ret ?_ | (refine thenQ_nrm ?_; (refine W_seq ?_; (refine W_rgn ?_; ((refine Ra rfl (X_bsliceC Parts.nil rfl rfl rfl (fun v5 => ?_)); (rcases Nat.eq_zero_or_pos l.length with hl0 | hl0)) <;> (refine Ra rfl (X_mv rfl ?_)) <;> (first | (refine Ra rfl (xApA (xs := []) (c := 0) rfl rfl rfl (by simp only [List.length_map, List.length_nil]; omega) (by simp only [List.length_map, List.length_nil]; omega) (fun v7 => ?_))) | (refine Ra rfl (xApR (xs := []) (c := 0) rfl rfl (by simp only [List.length_map, List.length_nil]; omega) (fun v7 => ?_)))) <;> (refine Ra rfl (X_mv rfl ?_)) <;> (refine R_nil ?_))) <;> ((refine thenQ_nrm ?_; (refine W_ret ?_))))))))))
  <;> (refine fn_ret (Res.tmp rfl Res.nil) ?_)
  all_goals first
    | (have hl9 : l = [] := by simpa using hx
       subst hl9
       exact Upd.nil ⟨rfl, Fz.nil _ _⟩)
    | exact uG v7 fun Z9 hz9 hf => Upd.nil ⟨rfl, hf⟩
    | exact uA v7 fun Z9 hz9 hf => Upd.nil ⟨rfl, hf⟩
end Go.Proofs.Ytbjgnogcjglcoaa.Hm.V
