import Derived.Test.YtbjgnogcjglcoaaHF
import Derived.Test.YtbjgnogcjglcoaaA6
import Derived.Test.YtbjgnogcjglcoaaVS2
namespace Go.Proofs.Ytbjgnogcjglcoaa.Hm.V
open Go
set_option linter.all false
set_option maxRecDepth 100000
attribute [local irreducible] X S R D W Call Upd Rds Rck Sees Res Cel CallP fnQ
def lettersP (L : Int) (w : List Int) : Prop := ∀ i, i < w.length → 0 ≤ w.getD i default ∧ w.getD i default < L
def runW (a : Au) (w : List Int) : Nat := w.foldl (fun m c => stepTo a.ed m c) (setOf a.st)
theorem runW_take {a : Au} {w : List Int} {i : Nat} (h : i < w.length) : runW a (w.take (i + 1)) = stepTo a.ed (runW a (w.take i)) (w.getD i default) := foldl_take h
def accP (a : Au) (w : List Int) : Prop := runW a w &&& setOf a.en ≠ 0
theorem isAuto_st {a : Au} (h : isAutoP a) : inSt a.st := fun i hi => by
  obtain ⟨h1, h2, _, _, _, h6, _⟩ := h
  obtain ⟨q1, q2, _⟩ := h6 i hi
  omega
theorem isAuto_en {a : Au} (h : isAutoP a) : inSt a.en := fun i hi => by
  obtain ⟨h1, h2, _, _, _, _, h6, _⟩ := h
  obtain ⟨q1, q2, _⟩ := h6 i hi
  omega
theorem isAuto_ed {a : Au} (h : isAutoP a) : inEd a.ed := fun i hi => by
  obtain ⟨h1, h2, _, _, _, _, _, h6⟩ := h
  obtain ⟨q1, q2, q3, q4, _⟩ := h6 i hi
  omega
theorem runW_lt {a : Au} (h : isAutoP a) (w : List Int) : ∀ i, i ≤ w.length → runW a (w.take i) < 2 ^ 256
  | 0, _ => by rw [List.take_zero]; exact setOf_lt (isAuto_st h)
  | i + 1, hi => by rw [runW_take (by omega)]; exact stepTo_lt (isAuto_ed h)
set_option maxHeartbeats 4000000 in
theorem Letters_ok (lo : Nat) {Z : Vw} {v : Value} {l : List Int} {n : Int} [hl : IntsL Z v l] (hlen : l.length < 9223372036854775808) : CallP F lo 22 [.int .i64 n, v] Z fun r _ => ∃ b, r = .bool b ∧ (b = true ↔ lettersP n l) := by
  have hl := hl.out
  refine FnP (fn := c22) rfl rfl rfl ?_
  (refine W_seq ?_; (refine W_rgn ?_; ((refine Ra rfl (X_mv rfl ?_)) <;> (refine R_nil ?_))) <;> ((refine thenQ_nrm ?_; (refine W_seq ?_; (refine W_seq ?_; (refine W_rgn ?_; ((refine Ra rfl (X_mv rfl ?_)) <;> (refine R_nil ?_))) <;> ((refine thenQ_nrm ?_; (refine W_block ?_; ((
      refine wLoop (fun i : Nat => [(5, .int .i64 i)]) (fun i => []) (fun i Zi => i ≤ l.length ∧ ∀ j, j < i → 0 ≤ l.getD j default ∧ l.getD j default < n) (fun i => l.length - i) 0 (by repeat' (first | exact trivial | exact rfl | constructor)) (Upd.done ⟨⟨Nat.zero_le _, fun j hj => absurd hj (by omega)⟩, Has.nil⟩) ?_
      intro i Z1 hz1 hp
      obtain ⟨hi, hp⟩ := hp) <;> (refine W_seq ?_; (refine W_seq ?_; (refine W_rgn ?_; ((refine Ra rfl (X_mv rfl ?_)) <;> (refine Ra rfl (X_mv rfl ?_)) <;> (refine Ra rfl (xLen rfl ?_)) <;> (refine Ra rfl (X_lss rfl rfl (fun _ => ?_) (fun _ => ?_))) <;> (refine R_nil ?_))) <;> ((refine thenQ_nrm ?_; (refine W_cond rfl (fun ht => ?_) (fun ht => ?_) <;> (first | exact absurd ht (by decide) | (refine W_skip ?_) | (refine W_exit ?_)))))) <;> (first | refine thenQ_ext ?_ | (refine thenQ_nrm ?_; (refine W_seq ?_; (refine W_block ?_; (refine W_seq ?_; (refine W_rgn ?_; ((refine Ra rfl (X_mv rfl ?_)) <;> (refine Ra rfl (X_mv rfl ?_)) <;> (refine Ra rfl (xIa rfl rfl (by omega) (by omega) ?_)) <;> (refine Ra rfl (X_load (lE0 rfl (by omega) rfl) ?_)) <;> (refine Ra rfl (X_lss rfl rfl (fun _ => ?_) (fun _ => ?_))) <;> (refine Ra rfl (X_mv rfl ?_)) <;> (first | (refine Rb rfl rfl (X_mv rfl ?_)) | (refine Rc rfl rfl ?_)) <;> (first | (refine Rb rfl rfl (X_mv rfl ?_)) | (refine Rc rfl rfl ?_)) <;> (first | (refine Rb rfl rfl (xIa rfl rfl (by omega) (by omega) ?_)) | (refine Rc rfl rfl ?_)) <;> (first | (refine Rb rfl rfl (X_load (lE0 rfl (by omega) rfl) ?_)) | (refine Rc rfl rfl ?_)) <;> (first | (refine Rb rfl rfl (X_mv rfl ?_)) | (refine Rc rfl rfl ?_)) <;> (first | (refine Rb rfl rfl (X_geq rfl rfl (fun _ => ?_) (fun _ => ?_))) | (refine Rc rfl rfl ?_)) <;> (first | (refine Ra rfl (X_pickT rfl rfl ?_)) | (refine Ra rfl (X_pickF rfl rfl ?_))) <;> (refine R_nil ?_))) <;> ((refine thenQ_nrm ?_; (refine W_cond rfl (fun ht => ?_) (fun ht => ?_) <;> (first | exact absurd ht (by decide) | (refine W_seq ?_; (refine W_rgn ?_; ((refine Ra rfl (X_mv rfl ?_)) <;> (refine R_nil ?_))) <;> ((refine thenQ_nrm ?_; (refine W_ret ?_)))) | (refine W_skip ?_)))))) <;> (first | refine blockQ_nrm ?_ | refine blockQ_ret ?_)) <;> (first | refine thenQ_ret ?_ | (refine thenQ_nrm ?_; (refine W_rgn ?_; ((refine Ra rfl (X_mv rfl ?_)) <;> (refine Ra rfl (X_addI rfl rfl (by omega) (by omega) ?_)) <;> (refine Ra rfl (X_mv rfl ?_)) <;> (refine R_nil ?_))))))))) <;> (first | refine thenQ_ret ?_ | refine thenQ_ext ?_ | (refine thenQ_nrm ?_; (
        refine Upd.done ⟨i + 1, by omega, ⟨by omega, fun j hj => ?_⟩, (by repeat' (first | exact trivial | exact rfl | constructor)), Has.nil⟩
        rcases Nat.lt_or_ge j i with hj | hj
        · exact hp j hj
        · have : j = i := by omega
          subst this
          omega)))) <;> (first | refine blockQ_ret ?_ | refine blockQ_ext ?_))))) <;> (first | refine thenQ_ret ?_ | (refine thenQ_nrm ?_; (refine W_seq ?_; (refine W_rgn ?_; ((refine Ra rfl (X_mv rfl ?_)) <;> (refine R_nil ?_))) <;> ((refine thenQ_nrm ?_; (refine W_ret ?_))))))))))
  <;> (refine fnP_ret (Res.tmp rfl Res.nil) ?_)
  all_goals first
    | exact ⟨_, rfl, fun _ j hj => hp j (by omega), fun _ => rfl⟩
    | (refine ⟨_, rfl, fun hh => (by cases hh), fun hr => ?_⟩
       have := hr i (by omega)
       omega)
set_option maxHeartbeats 4000000 in
theorem RAccepts_ok (lo : Nat) {Z : Vw} {v v2 : Value} {a : Au} {l : List Int} (ha : AuV Z v a) (hA : isAutoP a) [hl : IntsL Z v2 l] (hlen : l.length < 9223372036854775808) : CallP F lo 58 [v, v2] Z fun r _ => ∃ b, r = .bool b ∧ (b = true ↔ accP a l) := by
  have hl := hl.out
  have hinS := isAuto_st hA
  have hinE := isAuto_en hA
  have hinD := isAuto_ed hA
  have hV := ha
  obtain ⟨vs, ve, vg, rfl, hs, he, hg, q1, q2, q3⟩ := ha
  refine FnP (fn := c58) rfl rfl rfl ?_
  (refine W_seq ?_; (refine W_rgn ?_; ((refine Ra rfl (xBox rfl (fun b2 => ?_))) <;> (refine Ra rfl (X_mv rfl ?_)) <;> (refine R_nil ?_))) <;> ((refine thenQ_nrm ?_; (refine W_seq ?_; (refine W_rgn ?_; ((refine Ra rfl (X_faddr rfl ?_)) <;> (refine Ra rfl (X_load (lB rfl rfl) ?_)) <;> (refine Ra rfl (xP (SetOf_ok lo (by assumption) (by assumption)) rfl (fun _ Z9 hz9 hq => ?_)); (subst hq)) <;> (refine Ra rfl (X_alloc (fun b5 => ?_))) <;> (refine Rn (xSW rfl rfl rfl rfl ?_)) <;> (refine R_nil ?_))) <;> ((refine thenQ_nrm ?_; (refine W_seq ?_; (refine W_seq ?_; (refine W_rgn ?_; ((refine Ra rfl (X_mv rfl ?_)) <;> (refine R_nil ?_))) <;> ((refine thenQ_nrm ?_; (refine W_block ?_; ((
      refine wLoop (fun i : Nat => [(6, .int .i64 i)]) (fun i => [.box b5 (cS (runW a (l.take i))), .box b2 [.int .i64 a.S, .int .i64 a.L, vs, ve, vg]]) (fun i Zi => i ≤ l.length) (fun i => l.length - i) 0 (by repeat' (first | exact trivial | exact rfl | constructor)) (Upd.done ⟨Nat.zero_le _, (hB rfl (hB rfl Has.nil))⟩) ?_
      intro i Z1 hz1 hp
      have hrun := runW_lt hA l i hp) <;> (refine W_seq ?_; (refine W_seq ?_; (refine W_rgn ?_; ((refine Ra rfl (X_mv rfl ?_)) <;> (refine Ra rfl (X_mv rfl ?_)) <;> (refine Ra rfl (xLen rfl ?_)) <;> (refine Ra rfl (X_lss rfl rfl (fun _ => ?_) (fun _ => ?_))) <;> (refine R_nil ?_))) <;> ((refine thenQ_nrm ?_; (refine W_cond rfl (fun ht => ?_) (fun ht => ?_) <;> (first | exact absurd ht (by decide) | (refine W_skip ?_) | (refine W_exit ?_)))))) <;> (first | refine thenQ_ext ?_ | (refine thenQ_nrm ?_; (refine W_seq ?_; (refine W_block ?_; (refine W_drw ?_; ((refine Da rfl rfl (X_load (lBA rfl rfl) ?_)) <;> (refine Da rfl rfl (X_load (lBA rfl rfl) ?_)) <;> (refine Da rfl rfl (X_mv rfl ?_)) <;> (refine Da rfl rfl (X_mv rfl ?_)) <;> (refine Da rfl rfl (xIa rfl rfl (by omega) (by omega) ?_)) <;> (refine Da rfl rfl (X_load (lE0 rfl (by omega) rfl) ?_)) <;> (refine Da rfl rfl (xP (To_ok lo (by first | assumption | exact AuV.le (by assumption) ZC.le) (by assumption)) rfl (fun _ Z22 hz22 hq => ?_)); (subst hq)) <;> (refine Dn rfl (xSW rfl rfl rfl rfl ?_)) <;> (refine D_nil ?_))) <;> (refine blockQ_nrm ?_)) <;> ((refine thenQ_nrm ?_; (refine W_rgn ?_; ((refine Ra rfl (X_mv rfl ?_)) <;> (refine Ra rfl (X_addI rfl rfl (by omega) (by omega) ?_)) <;> (refine Ra rfl (X_mv rfl ?_)) <;> (refine R_nil ?_))))))))) <;> (first | refine thenQ_ext ?_ | (refine thenQ_nrm ?_; (
        refine Upd.done ⟨i + 1, by omega, by omega, (by repeat' (first | exact trivial | exact rfl | constructor)), (hB ?_ (hB rfl Has.nil))⟩
        rw [runW_take (by omega)])))) <;> (refine blockQ_ext ?_))))) <;> ((refine thenQ_nrm ?_; (refine W_seq ?_; (refine W_drw ?_; ((refine Da rfl rfl (X_load (lBA rfl rfl) ?_)) <;> (refine Da rfl rfl (X_faddr rfl ?_)) <;> (refine Da rfl rfl (X_load (lB rfl rfl) ?_)) <;> (refine D_consR rfl (S_do rfl (xP (SetOf_ok lo (by assumption) (by assumption)) rfl (fun _ Z26 hz26 hq => ⟨(by (refine rDo rfl rfl (lBA rfl rfl) ?_); exact Rck_nil), ?_⟩))); (subst hq)) <;> (refine Da rfl rfl (xP (Meets_ok lo (by assumption)) rfl (fun _ Z27 hz27 hb27 => ?_)); (obtain ⟨b27, rfl, hb27⟩ := hb27)) <;> (refine Da rfl rfl (X_mv rfl ?_)) <;> (refine D_nil ?_))) <;> ((refine thenQ_nrm ?_; (refine W_ret ?_)))))))))))))
  <;> (refine fnP_ret (Res.tmp rfl Res.nil) ?_)
  have hi : i = l.length := by omega
  subst hi
  rw [List.take_length] at hb27
  exact ⟨_, rfl, hb27⟩
set_option maxHeartbeats 4000000 in
theorem R7Accepts_ok (lo : Nat) {Z : Vw} {v v2 : Value} {a : Au} {l : List Int} (ha : AuV Z v a) (hA : isAutoP a) [hl : IntsL Z v2 l] (hlen : l.length < 9223372036854775808) : CallP F lo 23 [v, v2] Z fun r _ => ∃ b, r = .bool b ∧ (b = true ↔ accP a l) := by
  have hl := hl.out
  have hV := ha
  obtain ⟨vs, ve, vg, rfl, hs, he, hg, q1, q2, q3⟩ := ha
  refine FnP (fn := c23) rfl rfl rfl ?_
  (refine W_seq ?_; (refine W_rgn ?_; ((refine Ra rfl (xBox rfl (fun b2 => ?_))) <;> (refine Ra rfl (X_mv rfl ?_)) <;> (refine R_nil ?_))) <;> ((refine thenQ_nrm ?_; (refine W_seq ?_; (refine W_rgn ?_; ((refine Ra rfl (X_load (lBA rfl rfl) ?_)) <;> (refine Ra rfl (X_mv rfl ?_)) <;> (refine Ra rfl (xP (RAccepts_ok lo (by first | assumption | exact AuV.le (by assumption) ZC.le) (by assumption) (by assumption)) rfl (fun _ Z7 hz7 hb7 => ?_)); (obtain ⟨b7, rfl, hb7⟩ := hb7)) <;> (refine Ra rfl (X_mv rfl ?_)) <;> (refine R_nil ?_))) <;> ((refine thenQ_nrm ?_; (refine W_ret ?_)))))))
  <;> (refine fnP_ret (Res.tmp rfl Res.nil) ?_)
  exact ⟨_, rfl, hb7⟩
end Go.Proofs.Ytbjgnogcjglcoaa.Hm.V
