/- Of layer 27: ref27's Of, To, Meets, place. -/
import Derived.Test.YtbjgnogcjglcoaaHF
import Derived.Test.YtbjgnogcjglcoaaA6
import Derived.Test.YtbjgnogcjglcoaaVD2
namespace Go.Proofs.Ytbjgnogcjglcoaa.Hm.V
open Go
set_option linter.all false
set_option maxRecDepth 100000
attribute [local irreducible] X S R D W Call Upd Rds Rck Sees Res Cel CallP fnQ
set_option maxHeartbeats 4000000 in
theorem Of_ok (lo : Nat) {Z : Vw} {v : Value} {l : List Int} [hl : IntsL Z v l] (hin : inSt l) (hlen : l.length < 9223372036854775808) : CallP F lo 64 [v] Z fun r _ => r = vS (setOf l) := by
  have hl := hl.out
  refine FnP (fn := c64) rfl rfl rfl ?_
  (refine W_seq ?_; (refine W_rgn ?_; ((refine Ra rfl (X_alloc (fun b2 => ?_))) <;> (refine R_nil ?_))) <;> ((refine thenQ_nrm ?_; (refine W_seq ?_; (refine W_rgn ?_; ((refine Ra rfl (X_mv rfl ?_)) <;> (refine Ra rfl (xP (SetOf_ok lo (by assumption) (by assumption)) rfl (fun _ Z4 hz4 hq => ?_)); (subst hq)) <;> (refine Rn (xSW rfl rfl rfl rfl ?_)) <;> (refine R_nil ?_))) <;> ((refine thenQ_nrm ?_; (refine W_ret ?_)))))))
  <;> (refine fnP_ret (rA rfl rfl Res.nil) ?_)
  rfl
set_option maxHeartbeats 4000000 in
theorem To7_ok (lo : Nat) {Z : Vw} {v : Value} {a : Au} {m : Nat} {c : Int} (ha : AuV Z v a) (hed : inEd a.ed) : CallP F lo 65 [v, vS m, .int .i64 c] Z fun r _ => r = vS (stepTo a.ed m c) := by
  have hV := ha
  obtain ⟨vs, ve, vg, rfl, hs, he, hg, q1, q2, q3⟩ := ha
  refine FnP (fn := c65) rfl rfl rfl ?_
  (refine W_seq ?_; (refine W_rgn ?_; ((refine Ra rfl (xBox rfl (fun b3 => ?_))) <;> (refine Ra rfl (xBox rfl (fun b4 => ?_))) <;> (refine Ra rfl (X_alloc (fun b6 => ?_))) <;> (refine R_nil ?_))) <;> ((refine thenQ_nrm ?_; (refine W_seq ?_; (refine W_rgn ?_; ((refine Ra rfl (X_load (lBA rfl rfl) ?_)) <;> (refine Ra rfl (X_load (lBA rfl rfl) ?_)) <;> (refine Ra rfl (X_mv rfl ?_)) <;> (refine Ra rfl (xP (To_ok lo (by first | assumption | exact AuV.le (by assumption) ZC.le) (by assumption)) rfl (fun _ Z10 hz10 hq => ?_)); (subst hq)) <;> (refine Rn (xSW rfl rfl rfl rfl ?_)) <;> (refine R_nil ?_))) <;> ((refine thenQ_nrm ?_; (refine W_ret ?_)))))))
  <;> (refine fnP_ret (rA rfl rfl Res.nil) ?_)
  rfl
set_option maxHeartbeats 4000000 in
theorem Meets7_ok (lo : Nat) {Z : Vw} {m m' : Nat} (hm : m < 2 ^ 256) : CallP F lo 63 [vS m, vS m'] Z fun r _ => ∃ b, r = .bool b ∧ (b = true ↔ m &&& m' ≠ 0) := by
  refine FnP (fn := c63) rfl rfl rfl ?_
  (refine W_seq ?_; (refine W_rgn ?_; ((refine Ra rfl (xBox rfl (fun b2 => ?_))) <;> (refine Ra rfl (xBox rfl (fun b3 => ?_))) <;> (refine Ra rfl (X_mv rfl ?_)) <;> (refine R_nil ?_))) <;> ((refine thenQ_nrm ?_; (refine W_seq ?_; (refine W_rgn ?_; ((refine Ra rfl (X_load (lBA rfl rfl) ?_)) <;> (refine Ra rfl (X_load (lBA rfl rfl) ?_)) <;> (refine Ra rfl (xP (Meets_ok lo (by assumption)) rfl (fun _ Z7 hz7 hb7 => ?_)); (obtain ⟨b7, rfl, hb7⟩ := hb7)) <;> (refine Ra rfl (X_mv rfl ?_)) <;> (refine R_nil ?_))) <;> ((refine thenQ_nrm ?_; (refine W_ret ?_)))))))
  <;> (refine fnP_ret (Res.tmp rfl Res.nil) ?_)
  exact ⟨_, rfl, hb7⟩
theorem idxOf_first {l : List Nat} {s i : Nat} (h : i < l.length) (he : l.getD i default = s) (hn : ∀ j, j < i → l.getD j default ≠ s) : l.idxOf s = i := by
  induction l generalizing i with
  | nil => simp at h
  | cons x l ih =>
    cases i with
    | zero =>
      simp at he; subst he; simp
    | succ i =>
      have h0 : x ≠ s := by simpa using hn 0 (by omega)
      rw [List.idxOf_cons]
      simp only [beq_eq_false_iff_ne.2 h0, cond_false]
      rw [ih (by simpa using h) (by simpa using he) fun j hj => by simpa using hn (j + 1) (by omega)]
set_option maxHeartbeats 4000000 in
theorem place_ok (lo : Nat) {Z : Vw} {v : Value} {l : List Nat} {s : Nat} (hs : s < 2 ^ 256) (hlt : ∀ m ∈ l, m < 2 ^ 256) (hlen : l.length < 9223372036854775808) :
    Call1 F lo 68 [v, vS s] Z (.gro v 4 (l.map cS)) fun r _ o' => o' = .gro v 4 (l.map cS) ∧ ((s ∈ l ∧ r = .int .i64 ((l.idxOf s : Nat) : Int)) ∨ (s ∉ l ∧ r = .int .i64 (-1))) := by
  refine Fn1 (fn := c68) rfl rfl rfl ?_
  (refine W_seq ?_; (refine W_rgn ?_; ((refine Ra rfl (xBox rfl (fun b3 => ?_))) <;> (refine Ra rfl (X_mv rfl ?_)) <;> (refine R_nil ?_))) <;> ((refine thenQ_nrm ?_; (refine W_seq ?_; (refine W_seq ?_; (refine W_rgn ?_; ((refine Ra rfl (X_mv rfl ?_)) <;> (refine R_nil ?_))) <;> ((refine thenQ_nrm ?_; (refine W_block ?_; ((
      refine wLoop (fun i : Nat => [(5, .int .i64 i)]) (fun i => [.gro v 4 (l.map cS), .box b3 (cS s)]) (fun i Zi => i ≤ l.length ∧ ∀ j, j < i → l.getD j default ≠ s) (fun i => l.length - i) 0 (by repeat' (first | exact trivial | exact rfl | constructor)) (Upd.done ⟨⟨Nat.zero_le _, fun j hj => absurd hj (by omega)⟩, (hG rfl (hB rfl Has.nil))⟩) ?_
      intro i Z1 hz1 hp
      obtain ⟨hi, hp⟩ := hp
      have hel : i < l.length → l.getD i default < 2 ^ 256 := fun h => by rw [getD_eq h]; exact hlt _ (List.getElem_mem h)) <;> (refine W_seq ?_; (refine W_seq ?_; (refine W_rgn ?_; ((refine Ra rfl (X_mv rfl ?_)) <;> (refine Ra rfl (X_mv rfl ?_)) <;> (refine Ra rfl (xLen rfl ?_)) <;> (refine Ra rfl (X_lss rfl rfl (fun _ => ?_) (fun _ => ?_))) <;> (refine R_nil ?_))) <;> ((refine thenQ_nrm ?_; (refine W_cond rfl (fun ht => ?_) (fun ht => ?_) <;> (first | exact absurd ht (by decide) | (refine W_skip ?_) | (refine W_exit ?_)))))) <;> (first | refine thenQ_ext ?_ | (refine thenQ_nrm ?_; (refine W_seq ?_; (refine W_block ?_; (refine W_seq ?_; (refine W_drw ?_; ((refine Da rfl rfl (X_mv rfl ?_)) <;> (refine Da rfl rfl (X_mv rfl ?_)) <;> (refine Da rfl rfl (xIa rfl rfl (by omega) (by omega) ?_)) <;> (refine Da rfl rfl (X_load (lEA rfl (by omega)) ?_)) <;> (refine Da rfl rfl (X_load (lBA rfl rfl) ?_)) <;> (refine Da rfl rfl (X_eqP rfl rfl (eqv_set (hel (by omega)) hs) (fun he => ?_) (fun he => ?_))) <;> (refine D_nil ?_))) <;> ((refine thenQ_nrm ?_; (refine W_cond rfl (fun ht => ?_) (fun ht => ?_) <;> (first | exact absurd ht (by decide) | (refine W_seq ?_; (refine W_rgn ?_; ((refine Ra rfl (X_mv rfl ?_)) <;> (refine Ra rfl (X_mv rfl ?_)) <;> (refine R_nil ?_))) <;> ((refine thenQ_nrm ?_; (refine W_ret ?_)))) | (refine W_skip ?_)))))) <;> (first | refine blockQ_nrm ?_ | refine blockQ_ret ?_)) <;> (first | refine thenQ_ret ?_ | (refine thenQ_nrm ?_; (refine W_rgn ?_; ((refine Ra rfl (X_mv rfl ?_)) <;> (refine Ra rfl (X_addI rfl rfl (by omega) (by omega) ?_)) <;> (refine Ra rfl (X_mv rfl ?_)) <;> (refine R_nil ?_))))))))) <;> (first | refine thenQ_ret ?_ | refine thenQ_ext ?_ | (refine thenQ_nrm ?_; (
        refine Upd.done ⟨i + 1, by omega, ⟨by omega, fun j hj => ?_⟩, (by repeat' (first | exact trivial | exact rfl | constructor)), (hG rfl (hB rfl Has.nil))⟩
        rcases Nat.lt_or_ge j i with hj | hj
        · exact hp j hj
        · have : j = i := by omega
          subst this
          exact he)))) <;> (first | refine blockQ_ret ?_ | refine blockQ_ext ?_))))) <;> (first | refine thenQ_ret ?_ | (refine thenQ_nrm ?_; (refine W_seq ?_; (refine W_rgn ?_; ((refine Ra rfl (X_mv rfl ?_)) <;> (refine R_nil ?_))) <;> ((refine thenQ_nrm ?_; (refine W_ret ?_))))))))))
  <;> (refine fn1_ret (Res.tmp rfl Res.nil) (hG (v := v) rfl Has.nil) ?_)
  all_goals first
    | exact ⟨rfl, .inl ⟨by rw [← he, getD_eq (by omega)]; exact List.getElem_mem _, by rw [idxOf_first (by omega) he hp]; rfl⟩⟩
    | (refine ⟨rfl, .inr ⟨fun hm => ?_, rfl⟩⟩
       obtain ⟨j, hj, e⟩ := List.getElem_of_mem hm
       exact hp j (by omega) (by rw [getD_eq hj]; exact e))
end Go.Proofs.Ytbjgnogcjglcoaa.Hm.V
