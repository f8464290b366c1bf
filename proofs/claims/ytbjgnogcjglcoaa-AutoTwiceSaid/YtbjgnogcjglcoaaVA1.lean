import Derived.Test.YtbjgnogcjglcoaaHF
import Derived.Test.YtbjgnogcjglcoaaA6
namespace Go.Proofs.Ytbjgnogcjglcoaa.Hm.V
open Go
set_option linter.all false
set_option maxRecDepth 100000
attribute [local irreducible] X S R D W Call Upd Rds Rck Sees Res Cel CallP fnQ
structure Ed where
  f : Int
  l : Int
  t : Int
  deriving DecidableEq
instance : Inhabited Ed := ⟨⟨0, 0, 0⟩⟩
def Ed.c (x : Ed) : List Value := [.int .i64 x.f, .int .i64 x.l, .int .i64 x.t]
def Ed.v (x : Ed) : Value := .agg ⟨x.c⟩
def Ed.lt (a b : Ed) : Prop := a.f < b.f ∨ (a.f = b.f ∧ (a.l < b.l ∨ (a.l = b.l ∧ a.t < b.t)))
abbrev Eds (Z : Vw) (v : Value) (l : List Ed) : Prop := Fz Z 3 v (l.map Ed.c)
def okAt (l : List Int) (n : Int) (i : Nat) : Prop := 0 ≤ l.getD i default ∧ l.getD i default < n ∧ (0 < i → l.getD (i - 1) default < l.getD i default)
def risingP (l : List Int) (n : Int) : Prop := ∀ i, i < l.length → okAt l n i
def edOk (S L : Int) (l : List Ed) (i : Nat) : Prop :=
  0 ≤ (l.getD i default).f ∧ (l.getD i default).f < S ∧ 0 ≤ (l.getD i default).t ∧ (l.getD i default).t < S ∧ 0 ≤ (l.getD i default).l ∧ (l.getD i default).l < L ∧ (0 < i → (l.getD (i - 1) default).lt (l.getD i default))
structure Au where
  S : Int
  L : Int
  st : List Int
  en : List Int
  ed : List Ed
def isAutoP (a : Au) : Prop := 0 ≤ a.S ∧ a.S ≤ 256 ∧ 1 ≤ a.L ∧ a.L ≤ 1024 ∧ (a.ed.length : Int) ≤ 200000 ∧ risingP a.st a.S ∧ risingP a.en a.S ∧ ∀ i, i < a.ed.length → edOk a.S a.L a.ed i
def AuV (Z : Vw) (v : Value) (a : Au) : Prop := ∃ vs ve vg, v = .agg ⟨[.int .i64 a.S, .int .i64 a.L, vs, ve, vg]⟩ ∧ Ints Z vs a.st ∧ Ints Z ve a.en ∧ Eds Z vg a.ed ∧ a.st.length < 9223372036854775808 ∧ a.en.length < 9223372036854775808 ∧ a.ed.length < 9223372036854775808
theorem AuV.le {Z Z' : Vw} {v : Value} {a : Au} (k : AuV Z v a) (hz : Z.le Z') : AuV Z' v a := by
  obtain ⟨vs, ve, vg, rfl, h1, h2, h3, h4⟩ := k
  exact ⟨vs, ve, vg, rfl, h1.le hz, h2.le hz, h3.le hz, h4⟩
set_option maxHeartbeats 4000000 in
theorem rising_ok (lo : Nat) {Z : Vw} {v : Value} {l : List Int} (n : Int) [hl : IntsL Z v l] (hlen : l.length < 9223372036854775808) :
    CallP F lo 52 [v, .int .i64 n] Z fun r _ => ∃ b, r = .bool b ∧ (b = true ↔ risingP l n) := by
  have hl := hl.out
  refine FnP (fn := c52) rfl rfl rfl ?_
  (refine W_seq ?_; (refine W_rgn ?_; ((refine Ra rfl (X_mv rfl ?_)) <;> (refine R_nil ?_))) <;> ((refine thenQ_nrm ?_; (refine W_seq ?_; (refine W_seq ?_; (refine W_rgn ?_; ((refine Ra rfl (X_mv rfl ?_)) <;> (refine Ra rfl (xLen rfl ?_)) <;> (refine Ra rfl (X_mv rfl ?_)) <;> (refine R_nil ?_))) <;> ((refine thenQ_nrm ?_; (refine W_block ?_; ((
      refine wLoop (fun i : Nat => [(9, .int .i64 i)]) (fun _ => []) (fun i _ => i ≤ l.length ∧ ∀ j, j < i → okAt l n j) (fun i => l.length - i) 0 (by repeat' (first | exact trivial | exact rfl | constructor)) (Upd.done ⟨⟨Nat.zero_le _, fun j hj => absurd hj (by omega)⟩, Has.nil⟩) ?_
      intro i Z1 hz1 hp
      obtain ⟨hi, hp⟩ := hp) <;> (refine W_seq ?_; (refine W_rgn ?_; ((refine Ra rfl (X_lss rfl rfl (fun _ => ?_) (fun _ => ?_))) <;> (refine R_nil ?_))) <;> ((refine thenQ_nrm ?_; (refine W_seq ?_; (refine W_cond rfl (fun ht => ?_) (fun ht => ?_) <;> (first | exact absurd ht (by decide) | (refine W_skip ?_) | (refine W_exit ?_))) <;> (first | refine thenQ_ext ?_ | (refine thenQ_nrm ?_; (refine W_seq ?_; (refine W_block ?_; (refine W_seq ?_; (refine W_rgn ?_; ((refine Ra rfl (X_mv rfl ?_)) <;> (refine Ra rfl (xIa rfl rfl (by omega) (by omega) ?_)) <;> (refine Ra rfl (X_load (lE0 rfl (by omega) rfl) ?_)) <;> (refine Ra rfl (X_mv rfl ?_)) <;> (refine Ra rfl (X_mv rfl ?_)) <;> (refine R_nil ?_))) <;> ((refine thenQ_nrm ?_; (refine W_seq ?_; (refine W_rgn ?_; ((refine Ra rfl (X_mv rfl ?_)) <;> (refine Ra rfl (X_lss rfl rfl (fun _ => ?_) (fun _ => ?_))) <;> (refine Ra rfl (X_mv rfl ?_)) <;> (first | (refine Rb rfl rfl (X_mv rfl ?_)) | (refine Rc rfl rfl ?_)) <;> (first | (refine Rb rfl rfl (X_mv rfl ?_)) | (refine Rc rfl rfl ?_)) <;> (first | (refine Rb rfl rfl (X_geq rfl rfl (fun _ => ?_) (fun _ => ?_))) | (refine Rc rfl rfl ?_)) <;> (first | (refine Ra rfl (X_pickT rfl rfl ?_)) | (refine Ra rfl (X_pickF rfl rfl ?_))) <;> (refine Ra rfl (X_mv rfl ?_)) <;> (first | (refine Rb rfl rfl (X_mv rfl ?_)) | (refine Rc rfl rfl ?_)) <;> (first | (refine Rb rfl rfl (X_gtr rfl rfl (fun _ => ?_) (fun _ => ?_))) | (refine Rc rfl rfl ?_)) <;> (first | (refine Rb rfl rfl (X_mv rfl ?_)) | (refine Rc rfl rfl ?_)) <;> (first | (refine Rb rfl rfl (X_mv rfl ?_)) | (refine Rc rfl rfl ?_) | (refine Rd rfl rfl ?_)) <;> (first | (refine Rb rfl rfl (X_mv rfl ?_)) | (refine Rc rfl rfl ?_) | (refine Rd rfl rfl ?_)) <;> (first | (refine Rb rfl rfl (X_mv rfl ?_)) | (refine Rc rfl rfl ?_) | (refine Rd rfl rfl ?_)) <;> (first | (refine Rb rfl rfl (X_subI rfl rfl (by omega) (by omega) ?_)) | (refine Rc rfl rfl ?_) | (refine Rd rfl rfl ?_)) <;> (first | (refine Rb rfl rfl (xIa rfl rfl (by omega) (by omega) ?_)) | (refine Rc rfl rfl ?_) | (refine Rd rfl rfl ?_)) <;> (first | (refine Rb rfl rfl (X_load (lE0 rfl (by omega) rfl) ?_)) | (refine Rc rfl rfl ?_) | (refine Rd rfl rfl ?_)) <;> (first | (refine Rb rfl rfl (X_leq rfl rfl (fun _ => ?_) (fun _ => ?_))) | (refine Rc rfl rfl ?_) | (refine Rd rfl rfl ?_)) <;> (first | (refine Rb rfl rfl (X_pickT rfl rfl ?_)) | (refine Rb rfl rfl (X_pickF rfl rfl ?_)) | (refine Rc rfl rfl ?_)) <;> (first | (refine Ra rfl (X_pickT rfl rfl ?_)) | (refine Ra rfl (X_pickF rfl rfl ?_))) <;> (refine R_nil ?_))) <;> ((refine thenQ_nrm ?_; (refine W_cond rfl (fun ht => ?_) (fun ht => ?_) <;> (first | exact absurd ht (by decide) | (refine W_seq ?_; (refine W_rgn ?_; ((refine Ra rfl (X_mv rfl ?_)) <;> (refine R_nil ?_))) <;> ((refine thenQ_nrm ?_; (refine W_ret ?_)))) | (refine W_skip ?_))))))))) <;> (first | refine blockQ_nrm ?_ | refine blockQ_ret ?_)) <;> (first | refine thenQ_ret ?_ | (refine thenQ_nrm ?_; (refine W_rgn ?_; ((refine Ra rfl (X_addI rfl rfl (by omega) (by omega) ?_)) <;> (refine Ra rfl (X_mv rfl ?_)) <;> (refine R_nil ?_)))))))))))) <;> (first | refine thenQ_ret ?_ | refine thenQ_ext ?_ | (refine thenQ_nrm ?_; (
        refine Upd.done ⟨i + 1, by omega, ⟨by omega, fun j hj => ?_⟩, (by repeat' (first | exact trivial | exact rfl | constructor)), Has.nil⟩
        rcases Nat.lt_or_ge j i with hj | hj
        · exact hp j hj
        · have : j = i := by omega
          subst this
          exact ⟨by omega, by omega, fun _ => by omega⟩)))) <;> (first | refine blockQ_ret ?_ | refine blockQ_ext ?_))))) <;> (first | refine thenQ_ret ?_ | (refine thenQ_nrm ?_; (refine W_seq ?_; (refine W_rgn ?_; ((refine Ra rfl (X_mv rfl ?_)) <;> (refine R_nil ?_))) <;> ((refine thenQ_nrm ?_; (refine W_ret ?_))))))))))
  <;> (refine fnP_ret (Res.tmp rfl Res.nil) ?_)
  all_goals first
    | exact ⟨_, rfl, fun _ j hj => hp j (by omega), fun _ => rfl⟩
    | (refine ⟨_, rfl, fun hh => (by cases hh), fun hr => ?_⟩
       obtain ⟨q1, q2, q3⟩ := hr i (by omega)
       omega)
set_option maxHeartbeats 4000000 in
theorem Rising_ok (lo : Nat) {Z : Vw} {v : Value} {l : List Int} (n : Int) [hl : IntsL Z v l] (hlen : l.length < 9223372036854775808) :
    CallP F lo 94 [v, .int .i64 n] Z fun r _ => ∃ b, r = .bool b ∧ (b = true ↔ risingP l n) := by
  have hl := hl.out
  refine FnP (fn := c94) rfl rfl rfl ?_
  (refine W_seq ?_; (refine W_rgn ?_; ((refine Ra rfl (X_mv rfl ?_)) <;> (refine R_nil ?_))) <;> ((refine thenQ_nrm ?_; (refine W_seq ?_; (refine W_seq ?_; (refine W_rgn ?_; ((refine Ra rfl (X_mv rfl ?_)) <;> (refine R_nil ?_))) <;> ((refine thenQ_nrm ?_; (refine W_block ?_; ((
      refine wLoop (fun i : Nat => [(5, .int .i64 i)]) (fun _ => []) (fun i _ => i ≤ l.length ∧ ∀ j, j < i → okAt l n j) (fun i => l.length - i) 0 (by repeat' (first | exact trivial | exact rfl | constructor)) (Upd.done ⟨⟨Nat.zero_le _, fun j hj => absurd hj (by omega)⟩, Has.nil⟩) ?_
      intro i Z1 hz1 hp
      obtain ⟨hi, hp⟩ := hp) <;> (refine W_seq ?_; (refine W_seq ?_; (refine W_rgn ?_; ((refine Ra rfl (X_mv rfl ?_)) <;> (refine Ra rfl (X_mv rfl ?_)) <;> (refine Ra rfl (xLen rfl ?_)) <;> (refine Ra rfl (X_lss rfl rfl (fun _ => ?_) (fun _ => ?_))) <;> (refine R_nil ?_))) <;> ((refine thenQ_nrm ?_; (refine W_cond rfl (fun ht => ?_) (fun ht => ?_) <;> (first | exact absurd ht (by decide) | (refine W_skip ?_) | (refine W_exit ?_)))))) <;> (first | refine thenQ_ext ?_ | (refine thenQ_nrm ?_; (refine W_seq ?_; (refine W_block ?_; (refine W_seq ?_; (refine W_drw ?_; ((refine Da rfl rfl (X_mv rfl ?_)) <;> (refine Da rfl rfl (X_mv rfl ?_)) <;> (refine Da rfl rfl (xIa rfl rfl (by omega) (by omega) ?_)) <;> (refine Da rfl rfl (X_load (lE0 rfl (by omega) rfl) ?_)) <;> (refine Da rfl rfl (X_lss rfl rfl (fun _ => ?_) (fun _ => ?_))) <;> (refine Da rfl rfl (X_mv rfl ?_)) <;> (first | (refine Db rfl rfl rfl (X_mv rfl ?_)) | (refine Dc rfl rfl rfl ?_)) <;> (first | (refine Db rfl rfl rfl (X_mv rfl ?_)) | (refine Dc rfl rfl rfl ?_)) <;> (first | (refine Db rfl rfl rfl (xIa rfl rfl (by omega) (by omega) ?_)) | (refine Dc rfl rfl rfl ?_)) <;> (first | (refine Db rfl rfl rfl (X_load (lE0 rfl (by omega) rfl) ?_)) | (refine Dc rfl rfl rfl ?_)) <;> (first | (refine Db rfl rfl rfl (X_mv rfl ?_)) | (refine Dc rfl rfl rfl ?_)) <;> (first | (refine Db rfl rfl rfl (X_geq rfl rfl (fun _ => ?_) (fun _ => ?_))) | (refine Dc rfl rfl rfl ?_)) <;> (first | (refine Da rfl rfl (X_pickT rfl rfl ?_)) | (refine Da rfl rfl (X_pickF rfl rfl ?_))) <;> (refine Da rfl rfl (X_mv rfl ?_)) <;> (first | (refine Db rfl rfl rfl (X_mv rfl ?_)) | (refine Dc rfl rfl rfl ?_)) <;> (first | (refine Db rfl rfl rfl (X_gtr rfl rfl (fun _ => ?_) (fun _ => ?_))) | (refine Dc rfl rfl rfl ?_)) <;> (first | (refine Db rfl rfl rfl (X_mv rfl ?_)) | (refine Dc rfl rfl rfl ?_)) <;> (first | (refine Db rfl rfl rfl (X_mv rfl ?_)) | (refine Dc rfl rfl rfl ?_) | (refine Dd rfl rfl rfl ?_)) <;> (first | (refine Db rfl rfl rfl (X_mv rfl ?_)) | (refine Dc rfl rfl rfl ?_) | (refine Dd rfl rfl rfl ?_)) <;> (first | (refine Db rfl rfl rfl (xIa rfl rfl (by omega) (by omega) ?_)) | (refine Dc rfl rfl rfl ?_) | (refine Dd rfl rfl rfl ?_)) <;> (first | (refine Db rfl rfl rfl (X_load (lE0 rfl (by omega) rfl) ?_)) | (refine Dc rfl rfl rfl ?_) | (refine Dd rfl rfl rfl ?_)) <;> (first | (refine Db rfl rfl rfl (X_mv rfl ?_)) | (refine Dc rfl rfl rfl ?_) | (refine Dd rfl rfl rfl ?_)) <;> (first | (refine Db rfl rfl rfl (X_mv rfl ?_)) | (refine Dc rfl rfl rfl ?_) | (refine Dd rfl rfl rfl ?_)) <;> (first | (refine Db rfl rfl rfl (X_subI rfl rfl (by omega) (by omega) ?_)) | (refine Dc rfl rfl rfl ?_) | (refine Dd rfl rfl rfl ?_)) <;> (first | (refine Db rfl rfl rfl (xIa rfl rfl (by omega) (by omega) ?_)) | (refine Dc rfl rfl rfl ?_) | (refine Dd rfl rfl rfl ?_)) <;> (first | (refine Db rfl rfl rfl (X_load (lE0 rfl (by omega) rfl) ?_)) | (refine Dc rfl rfl rfl ?_) | (refine Dd rfl rfl rfl ?_)) <;> (first | (refine Db rfl rfl rfl (X_leq rfl rfl (fun _ => ?_) (fun _ => ?_))) | (refine Dc rfl rfl rfl ?_) | (refine Dd rfl rfl rfl ?_)) <;> (first | (refine Db rfl rfl rfl (X_pickT rfl rfl ?_)) | (refine Db rfl rfl rfl (X_pickF rfl rfl ?_)) | (refine Dc rfl rfl rfl ?_)) <;> (first | (refine Da rfl rfl (X_pickT rfl rfl ?_)) | (refine Da rfl rfl (X_pickF rfl rfl ?_))) <;> (refine D_nil ?_))) <;> ((refine thenQ_nrm ?_; (refine W_cond rfl (fun ht => ?_) (fun ht => ?_) <;> (first | exact absurd ht (by decide) | (refine W_seq ?_; (refine W_rgn ?_; ((refine Ra rfl (X_mv rfl ?_)) <;> (refine R_nil ?_))) <;> ((refine thenQ_nrm ?_; (refine W_ret ?_)))) | (refine W_skip ?_)))))) <;> (first | refine blockQ_nrm ?_ | refine blockQ_ret ?_)) <;> (first | refine thenQ_ret ?_ | (refine thenQ_nrm ?_; (refine W_rgn ?_; ((refine Ra rfl (X_mv rfl ?_)) <;> (refine Ra rfl (X_addI rfl rfl (by omega) (by omega) ?_)) <;> (refine Ra rfl (X_mv rfl ?_)) <;> (refine R_nil ?_))))))))) <;> (first | refine thenQ_ret ?_ | refine thenQ_ext ?_ | (refine thenQ_nrm ?_; (
        refine Upd.done ⟨i + 1, by omega, ⟨by omega, fun j hj => ?_⟩, (by repeat' (first | exact trivial | exact rfl | constructor)), Has.nil⟩
        rcases Nat.lt_or_ge j i with hj | hj
        · exact hp j hj
        · have : j = i := by omega
          subst this
          exact ⟨by omega, by omega, fun _ => by omega⟩)))) <;> (first | refine blockQ_ret ?_ | refine blockQ_ext ?_))))) <;> (first | refine thenQ_ret ?_ | (refine thenQ_nrm ?_; (refine W_seq ?_; (refine W_rgn ?_; ((refine Ra rfl (X_mv rfl ?_)) <;> (refine R_nil ?_))) <;> ((refine thenQ_nrm ?_; (refine W_ret ?_))))))))))
  <;> (refine fnP_ret (Res.tmp rfl Res.nil) ?_)
  all_goals first
    | exact ⟨_, rfl, fun _ j hj => hp j (by omega), fun _ => rfl⟩
    | (refine ⟨_, rfl, fun hh => (by cases hh), fun hr => ?_⟩
       obtain ⟨q1, q2, q3⟩ := hr i (by omega)
       omega)
end Go.Proofs.Ytbjgnogcjglcoaa.Hm.V
