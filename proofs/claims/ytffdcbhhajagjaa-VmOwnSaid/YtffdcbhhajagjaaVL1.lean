/- Layer 9's laws: what they call, frozen. -/
import Derived.Test.YtffdcbhhajagjaaHF
import Derived.Test.YtffdcbhhajagjaaA6
import Derived.Test.YtffdcbhhajagjaaVR3
namespace Go.Proofs.Ytffdcbhhajagjaa.Hm.V
open Go
set_option linter.all false
set_option maxRecDepth 100000
attribute [local irreducible] X S R D W Call Upd Rds Rck Sees Res Cel CallP fnQ
theorem eqv_Ev (a b : Ev) : eqv (.cells 3 [(0, .int), (1, .int), (2, .int)]) (.agg ⟨a.c⟩) (.agg ⟨b.c⟩) = some (decide (a = b)) := by
  obtain ⟨a0, a1, a2⟩ := a
  obtain ⟨b0, b1, b2⟩ := b
  have hb : ∀ a b : Int, (a == b) = decide (a = b) := fun a b => rfl
  simp only [Ev.c, eqv, List.length_cons, List.length_nil, and_self, if_true, eqcells, List.getElem?_cons_zero, List.getElem?_cons_succ, veq0, hb]
  by_cases h0 : a0 = b0 <;> by_cases h1 : a1 = b1 <;> by_cases h2 : a2 = b2 <;> simp [h0, h1, h2]
instance : KeyE (.cells 3 [(0, .int), (1, .int), (2, .int)]) (fun a : Ev => .agg ⟨a.c⟩) where
  eq := eqv_Ev
  ok a := by simp [keyOk, veq0, Ev.c]
theorem eqv_Ou (a b : Ou) : eqv (.cells 2 [(0, .int), (1, .int)]) (.agg ⟨a.c⟩) (.agg ⟨b.c⟩) = some (decide (a = b)) := by
  obtain ⟨a0, a1⟩ := a
  obtain ⟨b0, b1⟩ := b
  have hb : ∀ a b : Int, (a == b) = decide (a = b) := fun a b => rfl
  simp only [Ou.c, eqv, List.length_cons, List.length_nil, and_self, if_true, eqcells, List.getElem?_cons_zero, List.getElem?_cons_succ, veq0, hb]
  by_cases h0 : a0 = b0 <;> by_cases h1 : a1 = b1 <;> simp [h0, h1]
instance : KeyE (.cells 2 [(0, .int), (1, .int)]) (fun a : Ou => .agg ⟨a.c⟩) where
  eq := eqv_Ou
  ok a := by simp [keyOk, veq0, Ou.c]
theorem list_same {α : Type} [Inhabited α] {l l' : List α} (h : l.length = l'.length) (k : ∀ j, j < l.length → l.getD j default = l'.getD j default) : l = l' := by
  apply List.ext_getElem h
  intro j h1 h2
  have := k j h1
  rw [getD_eq h1, getD_eq h2] at this
  exact this
set_option maxHeartbeats 4000000 in
theorem SameI_ok (lo : Nat) {Z : Vw} {v v' : Value} {l l' : List Int} [hl : FzL Z 1 v (l.map cI)] [hl' : FzL Z 1 v' (l'.map cI)] (hlen : l.length < 9223372036854775808) : CallP F lo 15 [v, v'] Z fun r _ => ∃ b, r = .bool b ∧ (b = true ↔ l = l') := by
  have hl := hl.out
  have hl' := hl'.out
  refine FnP (fn := c15) rfl rfl rfl ?_
  (refine W_seq ?_; (refine W_rgn ?_; ((refine Ra rfl (X_mv rfl ?_)) <;> (refine R_nil ?_))) <;> ((refine thenQ_nrm ?_; (refine W_seq ?_; (refine W_seq ?_; (refine W_rgn ?_; ((refine Ra rfl (X_mv rfl ?_)) <;> (refine Ra rfl (xLen rfl ?_)) <;> (refine Ra rfl (X_mv rfl ?_)) <;> (refine Ra rfl (xLen rfl ?_)) <;> (refine Ra rfl (X_neq rfl rfl (fun _ => ?_) (fun _ => ?_))) <;> (refine R_nil ?_))) <;> ((refine thenQ_nrm ?_; (refine W_cond rfl (fun ht => ?_) (fun ht => ?_) <;> (first | exact absurd ht (by decide) | (refine W_seq ?_; (refine W_rgn ?_; ((refine Ra rfl (X_mv rfl ?_)) <;> (refine R_nil ?_))) <;> ((refine thenQ_nrm ?_; (refine W_ret ?_)))) | (refine W_skip ?_)))))) <;> (first | refine thenQ_ret ?_ | (refine thenQ_nrm ?_; (refine W_seq ?_; (refine W_seq ?_; (refine W_rgn ?_; ((refine Ra rfl (X_mv rfl ?_)) <;> (refine R_nil ?_))) <;> ((refine thenQ_nrm ?_; (refine W_block ?_; ((
      refine wLoop (fun i : Nat => [(5, .int .i64 i)]) (fun i => []) (fun i Zi => i ≤ l.length ∧ ∀ j, j < i → l.getD j default = l'.getD j default) (fun i => l.length - i) 0 (by repeat' (first | exact trivial | exact rfl | constructor)) (Upd.done ⟨⟨Nat.zero_le _, fun j hj => absurd hj (by omega)⟩, Has.nil⟩) ?_
      intro i Z1 hz1 hp
      obtain ⟨hi, hp⟩ := hp) <;> (refine W_seq ?_; (refine W_seq ?_; (refine W_rgn ?_; ((refine Ra rfl (X_mv rfl ?_)) <;> (refine Ra rfl (X_mv rfl ?_)) <;> (refine Ra rfl (xLen rfl ?_)) <;> (refine Ra rfl (X_lss rfl rfl (fun _ => ?_) (fun _ => ?_))) <;> (refine R_nil ?_))) <;> ((refine thenQ_nrm ?_; (refine W_cond rfl (fun ht => ?_) (fun ht => ?_) <;> (first | exact absurd ht (by decide) | (refine W_skip ?_) | (refine W_exit ?_)))))) <;> (first | refine thenQ_ext ?_ | (refine thenQ_nrm ?_; (refine W_seq ?_; (refine W_block ?_; (refine W_seq ?_; (refine W_drw ?_; ((refine Da rfl rfl (X_mv rfl ?_)) <;> (refine Da rfl rfl (X_mv rfl ?_)) <;> (refine Da rfl rfl (xIa rfl rfl (by omega) (by omega) ?_)) <;> (refine Da rfl rfl (X_load (lE0 rfl (by omega) rfl) ?_)) <;> (refine Da rfl rfl (X_mv rfl ?_)) <;> (refine Da rfl rfl (X_mv rfl ?_)) <;> (refine Da rfl rfl (xIa rfl rfl (by omega) (by omega) ?_)) <;> (refine Da rfl rfl (X_load (lE0 rfl (by omega) rfl) ?_)) <;> (refine Da rfl rfl (X_neq rfl rfl (fun _ => ?_) (fun _ => ?_))) <;> (refine D_nil ?_))) <;> ((refine thenQ_nrm ?_; (refine W_cond rfl (fun ht => ?_) (fun ht => ?_) <;> (first | exact absurd ht (by decide) | (refine W_seq ?_; (refine W_rgn ?_; ((refine Ra rfl (X_mv rfl ?_)) <;> (refine R_nil ?_))) <;> ((refine thenQ_nrm ?_; (refine W_ret ?_)))) | (refine W_skip ?_)))))) <;> (first | refine blockQ_nrm ?_ | refine blockQ_ret ?_)) <;> (first | refine thenQ_ret ?_ | (refine thenQ_nrm ?_; (refine W_rgn ?_; ((refine Ra rfl (X_mv rfl ?_)) <;> (refine Ra rfl (X_addI rfl rfl (by omega) (by omega) ?_)) <;> (refine Ra rfl (X_mv rfl ?_)) <;> (refine R_nil ?_))))))))) <;> (first | refine thenQ_ret ?_ | refine thenQ_ext ?_ | (refine thenQ_nrm ?_; (
        refine Upd.done ⟨i + 1, by omega, ⟨by omega, fun j hj => ?_⟩, (by repeat' (first | exact trivial | exact rfl | constructor)), Has.nil⟩
        rcases Nat.lt_or_ge j i with hj | hj
        · exact hp j hj
        · obtain rfl : j = i := by omega
          assumption)))) <;> (first | refine blockQ_ret ?_ | refine blockQ_ext ?_))))) <;> (first | refine thenQ_ret ?_ | (refine thenQ_nrm ?_; (refine W_seq ?_; (refine W_rgn ?_; ((refine Ra rfl (X_mv rfl ?_)) <;> (refine R_nil ?_))) <;> ((refine thenQ_nrm ?_; (refine W_ret ?_)))))))))))))
  <;> (refine fnP_ret (Res.tmp rfl Res.nil) ?_)
  all_goals first
    | exact ⟨_, rfl, fun hh => (by cases hh), fun h => (by exfalso; subst h; omega)⟩
    | exact ⟨_, rfl, fun hh => (by cases hh), fun h => absurd (show l.getD i default = l'.getD i default by rw [h]) (by assumption)⟩
    | exact ⟨_, rfl, fun _ => list_same (by omega) fun j hj => hp j (by omega), fun _ => rfl⟩
set_option maxHeartbeats 4000000 in
theorem Outs_ok (lo : Nat) {Z : Vw} {v v' : Value} {l l' : List Ou} [hl : FzL Z 2 v (l.map Ou.c)] [hl' : FzL Z 2 v' (l'.map Ou.c)] (hlen : l.length < 9223372036854775808) : CallP F lo 19 [v, v'] Z fun r _ => ∃ b, r = .bool b ∧ (b = true ↔ l = l') := by
  have hl := hl.out
  have hl' := hl'.out
  refine FnP (fn := c19) rfl rfl rfl ?_
  (refine W_seq ?_; (refine W_rgn ?_; ((refine Ra rfl (X_mv rfl ?_)) <;> (refine R_nil ?_))) <;> ((refine thenQ_nrm ?_; (refine W_seq ?_; (refine W_seq ?_; (refine W_rgn ?_; ((refine Ra rfl (X_mv rfl ?_)) <;> (refine Ra rfl (xLen rfl ?_)) <;> (refine Ra rfl (X_mv rfl ?_)) <;> (refine Ra rfl (xLen rfl ?_)) <;> (refine Ra rfl (X_neq rfl rfl (fun _ => ?_) (fun _ => ?_))) <;> (refine R_nil ?_))) <;> ((refine thenQ_nrm ?_; (refine W_cond rfl (fun ht => ?_) (fun ht => ?_) <;> (first | exact absurd ht (by decide) | (refine W_seq ?_; (refine W_rgn ?_; ((refine Ra rfl (X_mv rfl ?_)) <;> (refine R_nil ?_))) <;> ((refine thenQ_nrm ?_; (refine W_ret ?_)))) | (refine W_skip ?_)))))) <;> (first | refine thenQ_ret ?_ | (refine thenQ_nrm ?_; (refine W_seq ?_; (refine W_seq ?_; (refine W_rgn ?_; ((refine Ra rfl (X_mv rfl ?_)) <;> (refine R_nil ?_))) <;> ((refine thenQ_nrm ?_; (refine W_block ?_; ((
      refine wLoop (fun i : Nat => [(5, .int .i64 i)]) (fun i => []) (fun i Zi => i ≤ l.length ∧ ∀ j, j < i → l.getD j default = l'.getD j default) (fun i => l.length - i) 0 (by repeat' (first | exact trivial | exact rfl | constructor)) (Upd.done ⟨⟨Nat.zero_le _, fun j hj => absurd hj (by omega)⟩, Has.nil⟩) ?_
      intro i Z1 hz1 hp
      obtain ⟨hi, hp⟩ := hp) <;> (refine W_seq ?_; (refine W_seq ?_; (refine W_rgn ?_; ((refine Ra rfl (X_mv rfl ?_)) <;> (refine Ra rfl (X_mv rfl ?_)) <;> (refine Ra rfl (xLen rfl ?_)) <;> (refine Ra rfl (X_lss rfl rfl (fun _ => ?_) (fun _ => ?_))) <;> (refine R_nil ?_))) <;> ((refine thenQ_nrm ?_; (refine W_cond rfl (fun ht => ?_) (fun ht => ?_) <;> (first | exact absurd ht (by decide) | (refine W_skip ?_) | (refine W_exit ?_)))))) <;> (first | refine thenQ_ext ?_ | (refine thenQ_nrm ?_; (refine W_seq ?_; (refine W_block ?_; (refine W_seq ?_; (refine W_drw ?_; ((refine Da rfl rfl (X_mv rfl ?_)) <;> (refine Da rfl rfl (X_mv rfl ?_)) <;> (refine Da rfl rfl (xIa rfl rfl (by omega) (by omega) ?_)) <;> (refine Da rfl rfl (X_load (lEA rfl (by omega)) ?_)) <;> (refine Da rfl rfl (X_mv rfl ?_)) <;> (refine Da rfl rfl (X_mv rfl ?_)) <;> (refine Da rfl rfl (xIa rfl rfl (by omega) (by omega) ?_)) <;> (refine Da rfl rfl (X_load (lEA rfl (by omega)) ?_)) <;> (refine Da rfl rfl (X_eqP rfl rfl (eqv_Ou (l.getD i default) (l'.getD i default)) (fun _ => ?_) (fun _ => ?_))) <;> (refine D_nil ?_))) <;> ((refine thenQ_nrm ?_; (refine W_cond rfl (fun ht => ?_) (fun ht => ?_) <;> (first | exact absurd ht (by decide) | (refine W_seq ?_; (refine W_rgn ?_; ((refine Ra rfl (X_mv rfl ?_)) <;> (refine R_nil ?_))) <;> ((refine thenQ_nrm ?_; (refine W_ret ?_)))) | (refine W_skip ?_)))))) <;> (first | refine blockQ_nrm ?_ | refine blockQ_ret ?_)) <;> (first | refine thenQ_ret ?_ | (refine thenQ_nrm ?_; (refine W_rgn ?_; ((refine Ra rfl (X_mv rfl ?_)) <;> (refine Ra rfl (X_addI rfl rfl (by omega) (by omega) ?_)) <;> (refine Ra rfl (X_mv rfl ?_)) <;> (refine R_nil ?_))))))))) <;> (first | refine thenQ_ret ?_ | refine thenQ_ext ?_ | (refine thenQ_nrm ?_; (
        refine Upd.done ⟨i + 1, by omega, ⟨by omega, fun j hj => ?_⟩, (by repeat' (first | exact trivial | exact rfl | constructor)), Has.nil⟩
        rcases Nat.lt_or_ge j i with hj | hj
        · exact hp j hj
        · obtain rfl : j = i := by omega
          assumption)))) <;> (first | refine blockQ_ret ?_ | refine blockQ_ext ?_))))) <;> (first | refine thenQ_ret ?_ | (refine thenQ_nrm ?_; (refine W_seq ?_; (refine W_rgn ?_; ((refine Ra rfl (X_mv rfl ?_)) <;> (refine R_nil ?_))) <;> ((refine thenQ_nrm ?_; (refine W_ret ?_)))))))))))))
  <;> (refine fnP_ret (Res.tmp rfl Res.nil) ?_)
  all_goals first
    | exact ⟨_, rfl, fun hh => (by cases hh), fun h => (by exfalso; subst h; omega)⟩
    | exact ⟨_, rfl, fun hh => (by cases hh), fun h => absurd (show l.getD i default = l'.getD i default by rw [h]) (by assumption)⟩
    | exact ⟨_, rfl, fun _ => list_same (by omega) fun j hj => hp j (by omega), fun _ => rfl⟩
set_option maxHeartbeats 4000000 in
theorem events_ok (lo : Nat) {Z : Vw} {v v' : Value} {l l' : List Ev} [hl : FzL Z 3 v (l.map Ev.c)] [hl' : FzL Z 3 v' (l'.map Ev.c)] (hlen : l.length < 9223372036854775808) : CallP F lo 26 [v, v'] Z fun r _ => ∃ b, r = .bool b ∧ (b = true ↔ l = l') := by
  have hl := hl.out
  have hl' := hl'.out
  refine FnP (fn := c26) rfl rfl rfl ?_
  (refine W_seq ?_; (refine W_rgn ?_; ((refine Ra rfl (X_mv rfl ?_)) <;> (refine R_nil ?_))) <;> ((refine thenQ_nrm ?_; (refine W_seq ?_; (refine W_seq ?_; (refine W_rgn ?_; ((refine Ra rfl (X_mv rfl ?_)) <;> (refine Ra rfl (xLen rfl ?_)) <;> (refine Ra rfl (X_mv rfl ?_)) <;> (refine Ra rfl (xLen rfl ?_)) <;> (refine Ra rfl (X_neq rfl rfl (fun _ => ?_) (fun _ => ?_))) <;> (refine R_nil ?_))) <;> ((refine thenQ_nrm ?_; (refine W_cond rfl (fun ht => ?_) (fun ht => ?_) <;> (first | exact absurd ht (by decide) | (refine W_seq ?_; (refine W_rgn ?_; ((refine Ra rfl (X_mv rfl ?_)) <;> (refine R_nil ?_))) <;> ((refine thenQ_nrm ?_; (refine W_ret ?_)))) | (refine W_skip ?_)))))) <;> (first | refine thenQ_ret ?_ | (refine thenQ_nrm ?_; (refine W_seq ?_; (refine W_seq ?_; (refine W_rgn ?_; ((refine Ra rfl (X_mv rfl ?_)) <;> (refine R_nil ?_))) <;> ((refine thenQ_nrm ?_; (refine W_block ?_; ((
      refine wLoop (fun i : Nat => [(5, .int .i64 i)]) (fun i => []) (fun i Zi => i ≤ l.length ∧ ∀ j, j < i → l.getD j default = l'.getD j default) (fun i => l.length - i) 0 (by repeat' (first | exact trivial | exact rfl | constructor)) (Upd.done ⟨⟨Nat.zero_le _, fun j hj => absurd hj (by omega)⟩, Has.nil⟩) ?_
      intro i Z1 hz1 hp
      obtain ⟨hi, hp⟩ := hp) <;> (refine W_seq ?_; (refine W_seq ?_; (refine W_rgn ?_; ((refine Ra rfl (X_mv rfl ?_)) <;> (refine Ra rfl (X_mv rfl ?_)) <;> (refine Ra rfl (xLen rfl ?_)) <;> (refine Ra rfl (X_lss rfl rfl (fun _ => ?_) (fun _ => ?_))) <;> (refine R_nil ?_))) <;> ((refine thenQ_nrm ?_; (refine W_cond rfl (fun ht => ?_) (fun ht => ?_) <;> (first | exact absurd ht (by decide) | (refine W_skip ?_) | (refine W_exit ?_)))))) <;> (first | refine thenQ_ext ?_ | (refine thenQ_nrm ?_; (refine W_seq ?_; (refine W_block ?_; (refine W_seq ?_; (refine W_drw ?_; ((refine Da rfl rfl (X_mv rfl ?_)) <;> (refine Da rfl rfl (X_mv rfl ?_)) <;> (refine Da rfl rfl (xIa rfl rfl (by omega) (by omega) ?_)) <;> (refine Da rfl rfl (X_load (lEA rfl (by omega)) ?_)) <;> (refine Da rfl rfl (X_mv rfl ?_)) <;> (refine Da rfl rfl (X_mv rfl ?_)) <;> (refine Da rfl rfl (xIa rfl rfl (by omega) (by omega) ?_)) <;> (refine Da rfl rfl (X_load (lEA rfl (by omega)) ?_)) <;> (refine Da rfl rfl (X_eqP rfl rfl (eqv_Ev (l.getD i default) (l'.getD i default)) (fun _ => ?_) (fun _ => ?_))) <;> (refine D_nil ?_))) <;> ((refine thenQ_nrm ?_; (refine W_cond rfl (fun ht => ?_) (fun ht => ?_) <;> (first | exact absurd ht (by decide) | (refine W_seq ?_; (refine W_rgn ?_; ((refine Ra rfl (X_mv rfl ?_)) <;> (refine R_nil ?_))) <;> ((refine thenQ_nrm ?_; (refine W_ret ?_)))) | (refine W_skip ?_)))))) <;> (first | refine blockQ_nrm ?_ | refine blockQ_ret ?_)) <;> (first | refine thenQ_ret ?_ | (refine thenQ_nrm ?_; (refine W_rgn ?_; ((refine Ra rfl (X_mv rfl ?_)) <;> (refine Ra rfl (X_addI rfl rfl (by omega) (by omega) ?_)) <;> (refine Ra rfl (X_mv rfl ?_)) <;> (refine R_nil ?_))))))))) <;> (first | refine thenQ_ret ?_ | refine thenQ_ext ?_ | (refine thenQ_nrm ?_; (
        refine Upd.done ⟨i + 1, by omega, ⟨by omega, fun j hj => ?_⟩, (by repeat' (first | exact trivial | exact rfl | constructor)), Has.nil⟩
        rcases Nat.lt_or_ge j i with hj | hj
        · exact hp j hj
        · obtain rfl : j = i := by omega
          assumption)))) <;> (first | refine blockQ_ret ?_ | refine blockQ_ext ?_))))) <;> (first | refine thenQ_ret ?_ | (refine thenQ_nrm ?_; (refine W_seq ?_; (refine W_rgn ?_; ((refine Ra rfl (X_mv rfl ?_)) <;> (refine R_nil ?_))) <;> ((refine thenQ_nrm ?_; (refine W_ret ?_)))))))))))))
  <;> (refine fnP_ret (Res.tmp rfl Res.nil) ?_)
  all_goals first
    | exact ⟨_, rfl, fun hh => (by cases hh), fun h => (by exfalso; subst h; omega)⟩
    | exact ⟨_, rfl, fun hh => (by cases hh), fun h => absurd (show l.getD i default = l'.getD i default by rw [h]) (by assumption)⟩
    | exact ⟨_, rfl, fun _ => list_same (by omega) fun j hj => hp j (by omega), fun _ => rfl⟩
set_option maxHeartbeats 4000000 in
theorem Traces_ok (lo : Nat) {Z : Vw} {v v' : Value} {l l' : List Ev} [hl : FzL Z 3 v (l.map Ev.c)] [hl' : FzL Z 3 v' (l'.map Ev.c)] (hlen : l.length < 9223372036854775808) : CallP F lo 18 [v, v'] Z fun r _ => ∃ b, r = .bool b ∧ (b = true ↔ l = l') := by
  have hl := hl.out
  have hl' := hl'.out
  refine FnP (fn := c18) rfl rfl rfl ?_
  (refine W_seq ?_; (refine W_rgn ?_; ((refine Ra rfl (X_mv rfl ?_)) <;> (refine R_nil ?_))) <;> ((refine thenQ_nrm ?_; (refine W_seq ?_; (refine W_rgn ?_; ((refine Ra rfl (X_mv rfl ?_)) <;> (refine Ra rfl (X_mv rfl ?_)) <;> (refine Ra rfl (xP (events_ok lo (by first | assumption | omega)) rfl (fun _ Z7 hz7 hb7 => ?_)); (obtain ⟨b7, rfl, hb7⟩ := hb7; cases b7 <;> simp only [Bool.false_eq_true, false_iff, true_iff] at hb7)) <;> (refine Ra rfl (X_mv rfl ?_)) <;> (refine R_nil ?_))) <;> ((refine thenQ_nrm ?_; (refine W_ret ?_)))))))
  <;> (refine fnP_ret (Res.tmp rfl Res.nil) ?_)
  all_goals exact ⟨_, rfl, by simpa using hb7⟩
structure Rr where
  e : Int
  st : List Int
  ou : List Ou
  tr : List Ev
  co : Int
  us : Int
  wh : Int
/-- A run's value: its slices stand. -/
def RrV (Z : Vw) (v : Value) (r : Rr) : Prop := ∃ va vb vc, v = .agg ⟨[.int .i64 r.e, va, vb, vc, .int .i64 r.co, .int .i64 r.us, .int .i64 r.wh]⟩ ∧ Ints Z va r.st ∧ Fz Z 2 vb (r.ou.map Ou.c) ∧ Fz Z 3 vc (r.tr.map Ev.c) ∧ r.st.length < 9223372036854775808 ∧ r.ou.length < 9223372036854775808 ∧ r.tr.length < 9223372036854775808
theorem RrV.le {Z Z' : Vw} {v : Value} {r : Rr} (k : RrV Z v r) (hz : Z.le Z') : RrV Z' v r := by
  obtain ⟨va, vb, vc, rfl, h1, h2, h3, h4⟩ := k
  exact ⟨va, vb, vc, rfl, h1.le hz, h2.le hz, h3.le hz, h4⟩
set_option maxHeartbeats 4000000 in
theorem MSame_ok (lo : Nat) {Z : Vw} {v v' : Value} {r r' : Rr} (h1 : RrV Z v r) (h2 : RrV Z v' r') : CallP F lo 13 [v, v'] Z fun x _ => ∃ b, x = .bool b ∧ (b = true ↔ r = r') := by
  obtain ⟨va, vb, vc, rfl, f1, f2, f3, m1, m2, m3⟩ := h1
  obtain ⟨va', vb', vc', rfl, f1', f2', f3', m1', m2', m3'⟩ := h2
  refine FnP (fn := c13) rfl rfl rfl ?_
  (refine W_seq ?_; (refine W_rgn ?_; ((refine Ra rfl (xBox rfl (fun b2 => ?_))) <;> (refine Ra rfl (xBox rfl (fun b3 => ?_))) <;> (refine Ra rfl (X_mv rfl ?_)) <;> (refine R_nil ?_))) <;> ((refine thenQ_nrm ?_; (refine W_seq ?_; (refine W_rgn ?_; ((refine Ra rfl (X_faddr rfl ?_)) <;> (refine Ra rfl (X_load (lB rfl rfl) ?_)) <;> (refine Ra rfl (X_faddr rfl ?_)) <;> (refine Ra rfl (X_load (lB rfl rfl) ?_)) <;> (refine Ra rfl (X_eql rfl rfl (fun _ => ?_) (fun _ => ?_))) <;> (refine Ra rfl (X_mv rfl ?_)) <;> (first | (refine Rb rfl rfl (X_faddr rfl ?_)) | (refine Rc rfl rfl ?_)) <;> (first | (refine Rb rfl rfl (X_load (lB rfl rfl) ?_)) | (refine Rc rfl rfl ?_)) <;> (first | (refine Rb rfl rfl (X_faddr rfl ?_)) | (refine Rc rfl rfl ?_)) <;> (first | (refine Rb rfl rfl (X_load (lB rfl rfl) ?_)) | (refine Rc rfl rfl ?_)) <;> (first | (refine Rb rfl rfl (xP (SameI_ok lo (by first | assumption | omega)) rfl (fun _ Z15 hz15 hb15 => ?_)); (obtain ⟨b15, rfl, hb15⟩ := hb15; cases b15 <;> simp only [Bool.false_eq_true, false_iff, true_iff] at hb15)) | (refine Rc rfl rfl ?_)) <;> (first | (refine Ra rfl (X_pickT rfl rfl ?_)) | (refine Ra rfl (X_pickF rfl rfl ?_))) <;> (refine Ra rfl (X_mv rfl ?_)) <;> (first | (refine Rb rfl rfl (X_faddr rfl ?_)) | (refine Rc rfl rfl ?_)) <;> (first | (refine Rb rfl rfl (X_load (lB rfl rfl) ?_)) | (refine Rc rfl rfl ?_)) <;> (first | (refine Rb rfl rfl (X_faddr rfl ?_)) | (refine Rc rfl rfl ?_)) <;> (first | (refine Rb rfl rfl (X_load (lB rfl rfl) ?_)) | (refine Rc rfl rfl ?_)) <;> (first | (refine Rb rfl rfl (xP (Outs_ok lo (by first | assumption | omega)) rfl (fun _ Z22 hz22 hb22 => ?_)); (obtain ⟨b22, rfl, hb22⟩ := hb22; cases b22 <;> simp only [Bool.false_eq_true, false_iff, true_iff] at hb22)) | (refine Rc rfl rfl ?_)) <;> (first | (refine Ra rfl (X_pickT rfl rfl ?_)) | (refine Ra rfl (X_pickF rfl rfl ?_))) <;> (refine Ra rfl (X_mv rfl ?_)) <;> (first | (refine Rb rfl rfl (X_faddr rfl ?_)) | (refine Rc rfl rfl ?_)) <;> (first | (refine Rb rfl rfl (X_load (lB rfl rfl) ?_)) | (refine Rc rfl rfl ?_)) <;> (first | (refine Rb rfl rfl (X_faddr rfl ?_)) | (refine Rc rfl rfl ?_)) <;> (first | (refine Rb rfl rfl (X_load (lB rfl rfl) ?_)) | (refine Rc rfl rfl ?_)) <;> (first | (refine Rb rfl rfl (xP (events_ok lo (by first | assumption | omega)) rfl (fun _ Z29 hz29 hb29 => ?_)); (obtain ⟨b29, rfl, hb29⟩ := hb29; cases b29 <;> simp only [Bool.false_eq_true, false_iff, true_iff] at hb29)) | (refine Rc rfl rfl ?_)) <;> (first | (refine Ra rfl (X_pickT rfl rfl ?_)) | (refine Ra rfl (X_pickF rfl rfl ?_))) <;> (refine Ra rfl (X_mv rfl ?_)) <;> (first | (refine Rb rfl rfl (X_faddr rfl ?_)) | (refine Rc rfl rfl ?_)) <;> (first | (refine Rb rfl rfl (X_load (lB rfl rfl) ?_)) | (refine Rc rfl rfl ?_)) <;> (first | (refine Rb rfl rfl (X_faddr rfl ?_)) | (refine Rc rfl rfl ?_)) <;> (first | (refine Rb rfl rfl (X_load (lB rfl rfl) ?_)) | (refine Rc rfl rfl ?_)) <;> (first | (refine Rb rfl rfl (X_eql rfl rfl (fun _ => ?_) (fun _ => ?_))) | (refine Rc rfl rfl ?_)) <;> (first | (refine Ra rfl (X_pickT rfl rfl ?_)) | (refine Ra rfl (X_pickF rfl rfl ?_))) <;> (refine Ra rfl (X_mv rfl ?_)) <;> (first | (refine Rb rfl rfl (X_faddr rfl ?_)) | (refine Rc rfl rfl ?_)) <;> (first | (refine Rb rfl rfl (X_load (lB rfl rfl) ?_)) | (refine Rc rfl rfl ?_)) <;> (first | (refine Rb rfl rfl (X_faddr rfl ?_)) | (refine Rc rfl rfl ?_)) <;> (first | (refine Rb rfl rfl (X_load (lB rfl rfl) ?_)) | (refine Rc rfl rfl ?_)) <;> (first | (refine Rb rfl rfl (X_eql rfl rfl (fun _ => ?_) (fun _ => ?_))) | (refine Rc rfl rfl ?_)) <;> (first | (refine Ra rfl (X_pickT rfl rfl ?_)) | (refine Ra rfl (X_pickF rfl rfl ?_))) <;> (refine Ra rfl (X_mv rfl ?_)) <;> (first | (refine Rb rfl rfl (X_faddr rfl ?_)) | (refine Rc rfl rfl ?_)) <;> (first | (refine Rb rfl rfl (X_load (lB rfl rfl) ?_)) | (refine Rc rfl rfl ?_)) <;> (first | (refine Rb rfl rfl (X_faddr rfl ?_)) | (refine Rc rfl rfl ?_)) <;> (first | (refine Rb rfl rfl (X_load (lB rfl rfl) ?_)) | (refine Rc rfl rfl ?_)) <;> (first | (refine Rb rfl rfl (X_eql rfl rfl (fun _ => ?_) (fun _ => ?_))) | (refine Rc rfl rfl ?_)) <;> (first | (refine Ra rfl (X_pickT rfl rfl ?_)) | (refine Ra rfl (X_pickF rfl rfl ?_))) <;> (refine Ra rfl (X_mv rfl ?_)) <;> (refine R_nil ?_))) <;> ((refine thenQ_nrm ?_; (refine W_ret ?_)))))))
  <;> (refine fnP_ret (Res.tmp rfl Res.nil) ?_)
  all_goals
    refine ⟨_, rfl, ?_⟩
    obtain ⟨e, st, ou, tr, co, us, wh⟩ := r
    obtain ⟨e', st', ou', tr', co', us', wh'⟩ := r'
    simp only [Rr.mk.injEq, Bool.false_eq_true, false_iff, true_iff, not_and] at *
    first
      | (refine ⟨?_, ?_, ?_, ?_, ?_, ?_, ?_⟩ <;> first | assumption | omega)
      | (intros; first | contradiction | omega)
theorem ErrV.uniq {c : Cd} {fu : Int} {st pk : List Int} {e e' : Int} (h : ErrV c fu st pk e) (h' : ErrV c fu st pk e') : e = e' := by
  cases h <;> cases h' <;> first | rfl | contradiction | (exfalso; omega)
theorem ErrV.total (c : Cd) (fu : Int) (st pk : List Int) : ∃ e, ErrV c fu st pk e := by
  by_cases h1 : codeP c
  · by_cases h2 : 0 ≤ fu ∧ fu ≤ 4194304
    · by_cases h3 : startP c st pk
      · exact ⟨_, .ok h1 h2 h3⟩
      · exact ⟨_, .start h1 h2 h3⟩
    · exact ⟨_, .arg h1 (by omega)⟩
  · exact ⟨_, .code h1⟩
theorem ErrV.good {c : Cd} {fu : Int} {st pk : List Int} (h : ErrV c fu st pk 0) : codeP c ∧ (0 ≤ fu ∧ fu ≤ 4194304) ∧ startP c st pk := by
  cases h with
  | ok h h2 h3 => exact ⟨h, h2, h3⟩
def rrOf (p : Cf × Int) : Rr := ⟨p.2, p.1.st, p.1.ou, p.1.tr, (p.1.tl.length : Nat), (p.1.us : Nat), whP p.2 p.1.pc⟩
def zeroRr : Rr := ⟨0, [], [], [], 0, 0, 0⟩
theorem run_len {c : Cd} {fu : Int} {st pk : List Int} (h : ErrV c fu st pk 0) : (runV c st pk fu).1.tl.length ≤ 4194304 ∧ (runV c st pk fu).1.ou.length ≤ 4194304 ∧ (runV c st pk fu).1.tr.length ≤ 4194304 ∧ (runV c st pk fu).1.st.length ≤ 48 ∧ (runV c st pk fu).1.rg.length = 64 := by
  obtain ⟨h1, h2, h3⟩ := h.good
  have g := Gd.run h1 h3.2.2 (n := fu.toNat) (beg_good h1 h3)
  have l := run_tl h1 h3.2.2 (n := fu.toNat) (beg_good h1 h3)
  have l0 : (begC st).tl.length = 0 := rfl
  have e1 := g.ol
  have e2 := g.tl
  have e3 := g.sl
  have e4 := h1.1.2.2.2.2
  refine ⟨?_, ?_, ?_, ?_, g.rl⟩ <;> unfold runV <;> omega
section
variable {Z : Vw} {v v2 : Value} {c : Cd} {st pk : List Int} {fu : Int}
theorem RunE_ok (lo : Nat) {e : Int} (hv : CdV Z v c) (hs : StV Z v2 st pk) (hE : ErrV c fu st pk e) (he : e ≠ 0) : CallP F lo 9 [v, .int .i64 fu, v2] Z fun r _ => r = .tuple ⟨[.agg ⟨zrun⟩, .int .i64 e]⟩ :=
  CallP.of (Run_ok lo hv hs fu) fun v Z' O' hz hq => by
    rcases hq with ⟨e', he', hE', rfl, rfl⟩ | ⟨hE', _⟩
    · obtain rfl := hE.uniq hE'
      exact Upd.done ⟨rfl, rfl⟩
    · exact absurd (hE.uniq hE') he
theorem TrailE_ok (lo : Nat) {e : Int} (hv : CdV Z v c) (hs : StV Z v2 st pk) (hE : ErrV c fu st pk e) (he : e ≠ 0) : CallP F lo 10 [v, .int .i64 fu, v2] Z fun r _ => r = .tuple ⟨[.slice none 0 0, .int .i64 e]⟩ :=
  CallP.of (Trail_ok lo hv hs fu) fun v Z' O' hz hq => by
    rcases hq with ⟨e', he', hE', rfl, rfl⟩ | ⟨hE', _⟩
    · obtain rfl := hE.uniq hE'
      exact Upd.done ⟨rfl, rfl⟩
    · exact absurd (hE.uniq hE') he
theorem RegsE_ok (lo : Nat) {e : Int} (hv : CdV Z v c) (hs : StV Z v2 st pk) (hE : ErrV c fu st pk e) (he : e ≠ 0) : CallP F lo 11 [v, .int .i64 fu, v2] Z fun r _ => r = .tuple ⟨[.slice none 0 0, .int .i64 e]⟩ :=
  CallP.of (Regs_ok lo hv hs fu) fun v Z' O' hz hq => by
    rcases hq with ⟨e', he', hE', rfl, rfl⟩ | ⟨hE', _⟩
    · obtain rfl := hE.uniq hE'
      exact Upd.done ⟨rfl, rfl⟩
    · exact absurd (hE.uniq hE') he
theorem RunO_ok (lo : Nat) (hv : CdV Z v c) (hs : StV Z v2 st pk) (hE : ErrV c fu st pk 0) : CallP F lo 9 [v, .int .i64 fu, v2] Z fun r Z' => ∃ w, r = .tuple ⟨[w, .int .i64 0]⟩ ∧ RrV Z' w (rrOf (runV c st pk fu)) :=
  CallP.of (Run_ok lo hv hs fu) fun v Z' O' hz hq => by
    have hl := run_len hE
    rcases hq with ⟨e', he', hE', _⟩ | ⟨hE', vst, vou, vtr, rfl, rfl⟩
    · exact absurd (hE.uniq hE').symm he'
    · exact uG vst fun Z1 hz1 g1 => uG vou fun Z2 hz2 g2 => uG vtr fun Z3 hz3 g3 => Upd.done ⟨rfl, _, rfl, vst, vou, vtr, rfl, g1.le ZC.le, g2.le ZC.le, g3, (by show (runV c st pk fu).1.st.length < _; omega), (by show (runV c st pk fu).1.ou.length < _; omega), (by show (runV c st pk fu).1.tr.length < _; omega)⟩
theorem TrailO_ok (lo : Nat) (hv : CdV Z v c) (hs : StV Z v2 st pk) (hE : ErrV c fu st pk 0) : CallP F lo 10 [v, .int .i64 fu, v2] Z fun r Z' => ∃ w, r = .tuple ⟨[w, .int .i64 0]⟩ ∧ Ints Z' w (runV c st pk fu).1.tl :=
  CallP.of (Trail_ok lo hv hs fu) fun v Z' O' hz hq => by
    rcases hq with ⟨e', he', hE', _⟩ | ⟨hE', vt, rfl, rfl⟩
    · exact absurd (hE.uniq hE').symm he'
    · exact uG vt fun Z1 hz1 g1 => Upd.done ⟨rfl, _, rfl, g1⟩
theorem RegsO_ok (lo : Nat) (hv : CdV Z v c) (hs : StV Z v2 st pk) (hE : ErrV c fu st pk 0) : CallP F lo 11 [v, .int .i64 fu, v2] Z fun r Z' => ∃ w, r = .tuple ⟨[w, .int .i64 0]⟩ ∧ Ints Z' w (runV c st pk fu).1.rg :=
  CallP.of (Regs_ok lo hv hs fu) fun v Z' O' hz hq => by
    rcases hq with ⟨e', he', hE', _⟩ | ⟨hE', vt, rfl, rfl⟩
    · exact absurd (hE.uniq hE').symm he'
    · exact uG vt fun Z1 hz1 g1 => Upd.done ⟨rfl, _, rfl, g1⟩
theorem RCheckE_ok (lo : Nat) {e : Int} (hv : CdV Z v c) (hs : StV Z v2 st pk) (hE : ErrV c fu st pk e) : CallP F lo 12 [v, .int .i64 fu, v2] Z fun r _ => r = .int .i64 e :=
  (RCheck_ok lo hv hs fu).mono fun v Z' hz hq => by
    obtain ⟨e', rfl, hE'⟩ := hq
    rw [hE.uniq hE']
theorem RRunO_ok (lo : Nat) (hv : CdV Z v c) (hs : StV Z v2 st pk) (hE : ErrV c fu st pk 0) : CallP F lo 14 [v, .int .i64 fu, v2] Z fun r Z' => ∃ vst vou vtr vrg vtl pc fu', r = .agg ⟨[.int .i64 (runV c st pk fu).2, vst, vou, vtr, .int .i64 ((runV c st pk fu).1.tl.length : Nat), .int .i64 ((runV c st pk fu).1.us : Nat), .int .i64 (whP (runV c st pk fu).2 (runV c st pk fu).1.pc), vrg, vtl, .int .i64 pc, .int .i64 fu', .bool true]⟩ ∧ Ints Z' vst (runV c st pk fu).1.st ∧ Fz Z' 2 vou ((runV c st pk fu).1.ou.map Ou.c) ∧ Fz Z' 3 vtr ((runV c st pk fu).1.tr.map Ev.c) ∧ Ints Z' vrg (runV c st pk fu).1.rg ∧ Ints Z' vtl (runV c st pk fu).1.tl :=
  CallP.of (RRun_ok lo hv hs fu hE.good.1 hE.good.2.1 hE.good.2.2) fun v Z' O' hz hq => by
    obtain ⟨vst, vou, vtr, vrg, vtl, fu', rfl, rfl⟩ := hq
    exact uG vst fun Z1 hz1 g1 => uG vou fun Z2 hz2 g2 => uG vtr fun Z3 hz3 g3 => uA vrg fun Z4 hz4 g4 => uG vtl fun Z5 hz5 g5 => Upd.done ⟨rfl, vst, vou, vtr, vrg, vtl, _, _, rfl, g1.le ZC.le, g2.le ZC.le, g3.le ZC.le, g4.le ZC.le, g5⟩
theorem rrV_run {va vb vc : Value} (hE : ErrV c fu st pk 0) (fa : Ints Z va (runV c st pk fu).1.st) (fb : Fz Z 2 vb ((runV c st pk fu).1.ou.map Ou.c)) (fc : Fz Z 3 vc ((runV c st pk fu).1.tr.map Ev.c)) : RrV Z (.agg ⟨[.int .i64 (runV c st pk fu).2, va, vb, vc, .int .i64 ((runV c st pk fu).1.tl.length : Nat), .int .i64 ((runV c st pk fu).1.us : Nat), .int .i64 (whP (runV c st pk fu).2 (runV c st pk fu).1.pc)]⟩) (rrOf (runV c st pk fu)) := by
  have hl := run_len hE
  exact ⟨va, vb, vc, rfl, fa, fb, fc, (by show (runV c st pk fu).1.st.length < _; omega), (by show (runV c st pk fu).1.ou.length < _; omega), (by show (runV c st pk fu).1.tr.length < _; omega)⟩
theorem zrun_V : RrV Z (.agg ⟨zrun⟩) zeroRr := ⟨_, _, _, rfl, Fz.nil _ _, Fz.nil _ _, Fz.nil _ _, by decide, by decide, by decide⟩
end
end Go.Proofs.Ytffdcbhhajagjaa.Hm.V
