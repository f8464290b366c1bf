import Derived.Test.YtbjgnogcjglcoaaHF
import Derived.Test.YtbjgnogcjglcoaaA6
import Derived.Test.YtbjgnogcjglcoaaVA2
import Derived.Test.YtbjgnogcjglcoaaVS1
namespace Go.Proofs.Ytbjgnogcjglcoaa.Hm.V
open Go
set_option linter.all false
set_option maxRecDepth 100000
attribute [local irreducible] X S R D W Call Upd Rds Rck Sees Res Cel CallP fnQ
set_option maxHeartbeats 4000000 in
theorem of_ok (lo : Nat) {Z : Vw} {v : Value} {l : List Int} [hl : IntsL Z v l] (hin : inSt l) (hlen : l.length < 9223372036854775808) : CallP F lo 55 [v] Z fun r _ => r = vS (setOf l) := by
  have hl := hl.out
  refine FnP (fn := c55) rfl rfl rfl ?_
  (refine W_seq ?_; (refine W_rgn ?_; ((refine Ra rfl (X_alloc (fun b2 => ?_))) <;> (refine R_nil ?_))) <;> ((refine thenQ_nrm ?_; (refine W_seq ?_; (refine W_rgn ?_; ((refine Ra rfl (X_alloc (fun b3 => ?_))) <;> (refine R_nil ?_))) <;> ((refine thenQ_nrm ?_; (refine W_seq ?_; (refine W_seq ?_; (refine W_rgn ?_; ((refine Ra rfl (X_mv rfl ?_)) <;> (refine Ra rfl (xLen rfl ?_)) <;> (refine Ra rfl (X_mv rfl ?_)) <;> (refine R_nil ?_))) <;> ((refine thenQ_nrm ?_; (refine W_block ?_; ((
      refine wLoop (fun i : Nat => [(8, .int .i64 i)]) (fun i => [.box b3 (cS (setOf (l.take i))), .box b2 (cS 0)]) (fun i Zi => i ≤ l.length) (fun i => l.length - i) 0 (by repeat' (first | exact trivial | exact rfl | constructor)) (Upd.done ⟨Nat.zero_le _, (hB (by simp [setOf, cS_zero]) (hB (by simp [cS_zero]) Has.nil))⟩) ?_
      intro i Z1 hz1 hp
      have hel := hin i) <;> (refine W_seq ?_; (refine W_rgn ?_; ((refine Ra rfl (X_lss rfl rfl (fun _ => ?_) (fun _ => ?_))) <;> (refine R_nil ?_))) <;> ((refine thenQ_nrm ?_; (refine W_seq ?_; (refine W_cond rfl (fun ht => ?_) (fun ht => ?_) <;> (first | exact absurd ht (by decide) | (refine W_skip ?_) | (refine W_exit ?_))) <;> (first | refine thenQ_ext ?_ | (refine thenQ_nrm ?_; (refine W_seq ?_; (refine W_block ?_; (refine W_seq ?_; (refine W_rgn ?_; ((refine Ra rfl (xIa rfl rfl (by omega) (by omega) ?_)) <;> (refine Ra rfl (X_load (lE0 rfl (by omega) rfl) ?_)) <;> (refine Ra rfl (X_mv rfl ?_)) <;> (refine R_nil ?_))) <;> ((refine thenQ_nrm ?_; (refine W_rgn ?_; ((refine Ra rfl (X_mv rfl ?_)) <;> (refine Ra rfl (x1B (put_ok lo (by omega) (by omega)) rfl (fun _ Z13 hz13 o13 ho => ?_)); (subst ho)) <;> (refine R_nil ?_)))))) <;> (refine blockQ_nrm ?_)) <;> ((refine thenQ_nrm ?_; (refine W_rgn ?_; ((refine Ra rfl (X_addI rfl rfl (by omega) (by omega) ?_)) <;> (refine Ra rfl (X_mv rfl ?_)) <;> (refine R_nil ?_)))))))))))) <;> (first | refine thenQ_ext ?_ | (refine thenQ_nrm ?_; (
        refine Upd.done ⟨i + 1, by omega, by omega, (by repeat' (first | exact trivial | exact rfl | constructor)), (hB (by rw [setOf_take (by omega)]) (hB rfl Has.nil))⟩)))) <;> (refine blockQ_ext ?_))))) <;> ((refine thenQ_nrm ?_; (refine W_seq ?_; (refine W_rgn ?_; ((refine Ra rfl (X_load (lBA rfl rfl) ?_)) <;> (refine Rn (xSW rfl rfl rfl rfl ?_)) <;> (refine R_nil ?_))) <;> ((refine thenQ_nrm ?_; (refine W_ret ?_)))))))))))))
  <;> (refine fnP_ret (rA rfl rfl Res.nil) ?_)
  have hi : i = l.length := by omega
  subst hi
  rw [List.take_length]; rfl
set_option maxHeartbeats 4000000 in
theorem SetOf_ok (lo : Nat) {Z : Vw} {v : Value} {l : List Int} [hl : IntsL Z v l] (hin : inSt l) (hlen : l.length < 9223372036854775808) : CallP F lo 96 [v] Z fun r _ => r = vS (setOf l) := by
  have hl := hl.out
  refine FnP (fn := c96) rfl rfl rfl ?_
  (refine W_seq ?_; (refine W_rgn ?_; ((refine Ra rfl (X_alloc (fun b2 => ?_))) <;> (refine R_nil ?_))) <;> ((refine thenQ_nrm ?_; (refine W_seq ?_; (refine W_rgn ?_; ((refine Ra rfl (X_alloc (fun b3 => ?_))) <;> (refine R_nil ?_))) <;> ((refine thenQ_nrm ?_; (refine W_seq ?_; (refine W_seq ?_; (refine W_rgn ?_; ((refine Ra rfl (X_mv rfl ?_)) <;> (refine R_nil ?_))) <;> ((refine thenQ_nrm ?_; (refine W_block ?_; ((
      refine wLoop (fun i : Nat => [(4, .int .i64 i)]) (fun i => [.box b3 (cS (setOf (l.take i))), .box b2 (cS 0)]) (fun i Zi => i ≤ l.length) (fun i => l.length - i) 0 (by repeat' (first | exact trivial | exact rfl | constructor)) (Upd.done ⟨Nat.zero_le _, (hB (by simp [setOf, cS_zero]) (hB (by simp [cS_zero]) Has.nil))⟩) ?_
      intro i Z1 hz1 hp
      have hel := hin i) <;> (refine W_seq ?_; (refine W_seq ?_; (refine W_rgn ?_; ((refine Ra rfl (X_mv rfl ?_)) <;> (refine Ra rfl (X_mv rfl ?_)) <;> (refine Ra rfl (xLen rfl ?_)) <;> (refine Ra rfl (X_lss rfl rfl (fun _ => ?_) (fun _ => ?_))) <;> (refine R_nil ?_))) <;> ((refine thenQ_nrm ?_; (refine W_cond rfl (fun ht => ?_) (fun ht => ?_) <;> (first | exact absurd ht (by decide) | (refine W_skip ?_) | (refine W_exit ?_)))))) <;> (first | refine thenQ_ext ?_ | (refine thenQ_nrm ?_; (refine W_seq ?_; (refine W_block ?_; (refine W_drw ?_; ((refine Da rfl rfl (X_load (lBA rfl rfl) ?_)) <;> (refine Da rfl rfl (X_mv rfl ?_)) <;> (refine Da rfl rfl (X_mv rfl ?_)) <;> (refine Da rfl rfl (xIa rfl rfl (by omega) (by omega) ?_)) <;> (refine Da rfl rfl (X_load (lE0 rfl (by omega) rfl) ?_)) <;> (refine Da rfl rfl (xP (With_ok lo (by omega) (by omega)) rfl (fun _ Z16 hz16 hq => ?_)); (subst hq)) <;> (refine Dn rfl (xSW rfl rfl rfl rfl ?_)) <;> (refine D_nil ?_))) <;> (refine blockQ_nrm ?_)) <;> ((refine thenQ_nrm ?_; (refine W_rgn ?_; ((refine Ra rfl (X_mv rfl ?_)) <;> (refine Ra rfl (X_addI rfl rfl (by omega) (by omega) ?_)) <;> (refine Ra rfl (X_mv rfl ?_)) <;> (refine R_nil ?_))))))))) <;> (first | refine thenQ_ext ?_ | (refine thenQ_nrm ?_; (
        refine Upd.done ⟨i + 1, by omega, by omega, (by repeat' (first | exact trivial | exact rfl | constructor)), (hB (by rw [setOf_take (by omega)]) (hB rfl Has.nil))⟩)))) <;> (refine blockQ_ext ?_))))) <;> ((refine thenQ_nrm ?_; (refine W_seq ?_; (refine W_rgn ?_; ((refine Ra rfl (X_load (lBA rfl rfl) ?_)) <;> (refine Rn (xSW rfl rfl rfl rfl ?_)) <;> (refine R_nil ?_))) <;> ((refine thenQ_nrm ?_; (refine W_ret ?_)))))))))))))
  <;> (refine fnP_ret (rA rfl rfl Res.nil) ?_)
  have hi : i = l.length := by omega
  subst hi
  rw [List.take_length]; rfl
set_option maxHeartbeats 4000000 in
theorem meets_ok (lo : Nat) {Z : Vw} {m m' : Nat} (hm : m < 2 ^ 256) : CallP F lo 57 [vS m, vS m'] Z fun r _ => ∃ b, r = .bool b ∧ (b = true ↔ m &&& m' ≠ 0) := by
  refine FnP (fn := c57) rfl rfl rfl ?_
  (refine W_seq ?_; (refine W_rgn ?_; ((refine Ra rfl (xBox rfl (fun b2 => ?_))) <;> (refine Ra rfl (xBox rfl (fun b3 => ?_))) <;> (refine Ra rfl (X_mv rfl ?_)) <;> (refine R_nil ?_))) <;> ((refine thenQ_nrm ?_; (refine W_seq ?_; (refine W_seq ?_; (refine W_rgn ?_; ((refine Ra rfl (X_mv rfl ?_)) <;> (refine R_nil ?_))) <;> ((refine thenQ_nrm ?_; (refine W_block ?_; ((
      refine wLoop (fun i : Nat => [(6, .int .i64 i)]) (fun i => [.box b2 (cS m), .box b3 (cS m')]) (fun i Zi => i ≤ 4 ∧ ∀ j, j < i → wd m j &&& wd m' j = 0) (fun i => 4 - i) 0 (by repeat' (first | exact trivial | exact rfl | constructor)) (Upd.done ⟨⟨Nat.zero_le _, fun j hj => absurd hj (by omega)⟩, (hB rfl (hB rfl Has.nil))⟩) ?_
      intro i Z1 hz1 hp
      obtain ⟨hi, hp⟩ := hp) <;> (refine W_seq ?_; (refine W_rgn ?_; ((refine Ra rfl (X_lss rfl rfl (fun _ => ?_) (fun _ => ?_))) <;> (refine R_nil ?_))) <;> ((refine thenQ_nrm ?_; (refine W_seq ?_; (refine W_cond rfl (fun ht => ?_) (fun ht => ?_) <;> (first | exact absurd ht (by decide) | (refine W_skip ?_) | (refine W_exit ?_))) <;> (first | refine thenQ_ext ?_ | (refine thenQ_nrm ?_; (refine W_seq ?_; (refine W_block ?_; (refine W_seq ?_; (refine W_rgn ?_; ((refine Ra rfl (X_mv rfl ?_)) <;> (refine Ra rfl (X_mv rfl ?_)) <;> (refine R_nil ?_))) <;> ((refine thenQ_nrm ?_; (refine W_seq ?_; (refine W_drw ?_; ((refine Da rfl rfl (X_mv rfl ?_)) <;> (refine Da rfl rfl (xIaa rfl rfl (by omega) (by omega) ?_)) <;> (refine Da rfl rfl (X_load (lB rfl (cS_at0 (by omega))) ?_)) <;> (refine Da rfl rfl (X_mv rfl ?_)) <;> (refine Da rfl rfl (xIaa rfl rfl (by omega) (by omega) ?_)) <;> (refine Da rfl rfl (X_load (lB rfl (cS_at0 (by omega))) ?_)) <;> (refine Da rfl rfl (X_andU rfl rfl ?_)) <;> (refine Da rfl rfl (X_neq rfl rfl (fun _ => ?_) (fun _ => ?_))) <;> (refine D_nil ?_))) <;> ((refine thenQ_nrm ?_; (refine W_cond rfl (fun ht => ?_) (fun ht => ?_) <;> (first | exact absurd ht (by decide) | (refine W_seq ?_; (refine W_rgn ?_; ((refine Ra rfl (X_mv rfl ?_)) <;> (refine R_nil ?_))) <;> ((refine thenQ_nrm ?_; (refine W_ret ?_)))) | (refine W_skip ?_))))))))) <;> (first | refine blockQ_nrm ?_ | refine blockQ_ret ?_)) <;> (first | refine thenQ_ret ?_ | (refine thenQ_nrm ?_; (refine W_rgn ?_; ((refine Ra rfl (X_addI rfl rfl (by omega) (by omega) ?_)) <;> (refine Ra rfl (X_mv rfl ?_)) <;> (refine R_nil ?_)))))))))))) <;> (first | refine thenQ_ret ?_ | refine thenQ_ext ?_ | (refine thenQ_nrm ?_; (
        refine Upd.done ⟨i + 1, by omega, ⟨by omega, fun j hj => ?_⟩, (by repeat' (first | exact trivial | exact rfl | constructor)), (hB rfl (hB rfl Has.nil))⟩
        rcases Nat.lt_or_ge j i with hj | hj
        · exact hp j hj
        · have : j = i := by omega
          subst this
          omega)))) <;> (first | refine blockQ_ret ?_ | refine blockQ_ext ?_))))) <;> (first | refine thenQ_ret ?_ | (refine thenQ_nrm ?_; (refine W_seq ?_; (refine W_rgn ?_; ((refine Ra rfl (X_mv rfl ?_)) <;> (refine R_nil ?_))) <;> ((refine thenQ_nrm ?_; (refine W_ret ?_))))))))))
  <;> (refine fnP_ret (Res.tmp rfl Res.nil) ?_)
  all_goals
    refine ⟨_, rfl, ?_⟩
    rw [← meets_iff hm]
    first
      | exact ⟨fun _ => ⟨i, by omega, by omega⟩, fun _ => rfl⟩
      | exact ⟨fun hh => (by cases hh), fun ⟨j, hj, hne⟩ => absurd (hp j (by omega)) hne⟩
set_option maxHeartbeats 4000000 in
theorem Meets_ok (lo : Nat) {Z : Vw} {m m' : Nat} (hm : m < 2 ^ 256) : CallP F lo 98 [vS m, vS m'] Z fun r _ => ∃ b, r = .bool b ∧ (b = true ↔ m &&& m' ≠ 0) := by
  refine FnP (fn := c98) rfl rfl rfl ?_
  (refine W_seq ?_; (refine W_rgn ?_; ((refine Ra rfl (xBox rfl (fun b2 => ?_))) <;> (refine Ra rfl (xBox rfl (fun b3 => ?_))) <;> (refine Ra rfl (X_mv rfl ?_)) <;> (refine R_nil ?_))) <;> ((refine thenQ_nrm ?_; (refine W_seq ?_; (refine W_rgn ?_; ((refine Ra rfl (xIaa rfl rfl (by omega) (by omega) ?_)) <;> (refine Ra rfl (X_load (lB rfl rfl) ?_)) <;> (refine Ra rfl (xIaa rfl rfl (by omega) (by omega) ?_)) <;> (refine Ra rfl (X_load (lB rfl rfl) ?_)) <;> (refine Ra rfl (X_andU rfl rfl ?_)) <;> (refine Ra rfl (X_neq rfl rfl (fun _ => ?_) (fun _ => ?_))) <;> (refine Ra rfl (X_mv rfl ?_)) <;> (first | (refine Rb rfl rfl (xIaa rfl rfl (by omega) (by omega) ?_)) | (refine Rc rfl rfl ?_)) <;> (first | (refine Rb rfl rfl (X_load (lB rfl rfl) ?_)) | (refine Rc rfl rfl ?_)) <;> (first | (refine Rb rfl rfl (xIaa rfl rfl (by omega) (by omega) ?_)) | (refine Rc rfl rfl ?_)) <;> (first | (refine Rb rfl rfl (X_load (lB rfl rfl) ?_)) | (refine Rc rfl rfl ?_)) <;> (first | (refine Rb rfl rfl (X_andU rfl rfl ?_)) | (refine Rc rfl rfl ?_)) <;> (first | (refine Rb rfl rfl (X_neq rfl rfl (fun _ => ?_) (fun _ => ?_))) | (refine Rc rfl rfl ?_)) <;> (first | (refine Ra rfl (X_pickT rfl rfl ?_)) | (refine Ra rfl (X_pickF rfl rfl ?_))) <;> (refine Ra rfl (X_mv rfl ?_)) <;> (first | (refine Rb rfl rfl (xIaa rfl rfl (by omega) (by omega) ?_)) | (refine Rc rfl rfl ?_)) <;> (first | (refine Rb rfl rfl (X_load (lB rfl rfl) ?_)) | (refine Rc rfl rfl ?_)) <;> (first | (refine Rb rfl rfl (xIaa rfl rfl (by omega) (by omega) ?_)) | (refine Rc rfl rfl ?_)) <;> (first | (refine Rb rfl rfl (X_load (lB rfl rfl) ?_)) | (refine Rc rfl rfl ?_)) <;> (first | (refine Rb rfl rfl (X_andU rfl rfl ?_)) | (refine Rc rfl rfl ?_)) <;> (first | (refine Rb rfl rfl (X_neq rfl rfl (fun _ => ?_) (fun _ => ?_))) | (refine Rc rfl rfl ?_)) <;> (first | (refine Ra rfl (X_pickT rfl rfl ?_)) | (refine Ra rfl (X_pickF rfl rfl ?_))) <;> (refine Ra rfl (X_mv rfl ?_)) <;> (first | (refine Rb rfl rfl (xIaa rfl rfl (by omega) (by omega) ?_)) | (refine Rc rfl rfl ?_)) <;> (first | (refine Rb rfl rfl (X_load (lB rfl rfl) ?_)) | (refine Rc rfl rfl ?_)) <;> (first | (refine Rb rfl rfl (xIaa rfl rfl (by omega) (by omega) ?_)) | (refine Rc rfl rfl ?_)) <;> (first | (refine Rb rfl rfl (X_load (lB rfl rfl) ?_)) | (refine Rc rfl rfl ?_)) <;> (first | (refine Rb rfl rfl (X_andU rfl rfl ?_)) | (refine Rc rfl rfl ?_)) <;> (first | (refine Rb rfl rfl (X_neq rfl rfl (fun _ => ?_) (fun _ => ?_))) | (refine Rc rfl rfl ?_)) <;> (first | (refine Ra rfl (X_pickT rfl rfl ?_)) | (refine Ra rfl (X_pickF rfl rfl ?_))) <;> (refine Ra rfl (X_mv rfl ?_)) <;> (refine R_nil ?_))) <;> ((refine thenQ_nrm ?_; (refine W_ret ?_)))))))
  <;> (refine fnP_ret (Res.tmp rfl Res.nil) ?_)
  all_goals
    refine ⟨_, rfl, ?_⟩
    rw [← meets_iff hm]
    first
      | exact ⟨fun _ => ⟨0, by omega, by omega⟩, fun _ => rfl⟩
      | exact ⟨fun _ => ⟨1, by omega, by omega⟩, fun _ => rfl⟩
      | exact ⟨fun _ => ⟨2, by omega, by omega⟩, fun _ => rfl⟩
      | exact ⟨fun _ => ⟨3, by omega, by omega⟩, fun _ => rfl⟩
      | (refine ⟨fun hh => (by cases hh), fun ⟨j, hj, hne⟩ => ?_⟩
         exfalso
         rcases (by omega : j = 0 ∨ j = 1 ∨ j = 2 ∨ j = 3) with rfl | rfl | rfl | rfl <;> omega)
set_option maxHeartbeats 4000000 in
theorem To_ok (lo : Nat) {Z : Vw} {v : Value} {a : Au} {m : Nat} {c : Int} (ha : AuV Z v a) (hed : inEd a.ed) : CallP F lo 97 [v, vS m, .int .i64 c] Z fun r _ => r = vS (stepTo a.ed m c) := by
  have hA := ha
  obtain ⟨vs, ve, vg, rfl, hs, he, hg, q1, q2, q3⟩ := ha
  refine FnP (fn := c97) rfl rfl rfl ?_
  (refine W_seq ?_; (refine W_rgn ?_; ((refine Ra rfl (xBox rfl (fun b3 => ?_))) <;> (refine Ra rfl (xBox rfl (fun b4 => ?_))) <;> (refine Ra rfl (X_alloc (fun b6 => ?_))) <;> (refine R_nil ?_))) <;> ((refine thenQ_nrm ?_; (refine W_seq ?_; (refine W_rgn ?_; ((refine Ra rfl (X_alloc (fun b7 => ?_))) <;> (refine R_nil ?_))) <;> ((refine thenQ_nrm ?_; (refine W_seq ?_; (refine W_seq ?_; (refine W_rgn ?_; ((refine Ra rfl (X_mv rfl ?_)) <;> (refine R_nil ?_))) <;> ((refine thenQ_nrm ?_; (refine W_block ?_; ((
      refine wLoop (fun i : Nat => [(8, .int .i64 i)]) (fun i => [.box b7 (cS (stepTo (a.ed.take i) m c)), .box b6 (cS 0), .box b4 (cS m), .box b3 [.int .i64 a.S, .int .i64 a.L, vs, ve, vg]]) (fun i Zi => i ≤ a.ed.length) (fun i => a.ed.length - i) 0 (by repeat' (first | exact trivial | exact rfl | constructor)) (Upd.done ⟨Nat.zero_le _, (hB (by simp [stepTo, cS_zero]) (hB (by simp [cS_zero]) (hB rfl (hB rfl Has.nil))))⟩) ?_
      intro i Z1 hz1 hp
      have hel := hed i) <;> (refine W_seq ?_; (refine W_seq ?_; (refine W_rgn ?_; ((refine Ra rfl (X_mv rfl ?_)) <;> (refine Ra rfl (X_faddr rfl ?_)) <;> (refine Ra rfl (X_load (lB rfl rfl) ?_)) <;> (refine Ra rfl (xLen rfl ?_)) <;> (refine Ra rfl (X_lss rfl rfl (fun _ => ?_) (fun _ => ?_))) <;> (refine R_nil ?_))) <;> ((refine thenQ_nrm ?_; (refine W_cond rfl (fun ht => ?_) (fun ht => ?_) <;> (first | exact absurd ht (by decide) | (refine W_skip ?_) | (refine W_exit ?_)))))) <;> (first | refine thenQ_ext ?_ | (refine thenQ_nrm ?_; (refine W_seq ?_; (refine W_block ?_; (refine W_seq ?_; (refine W_drw ?_; ((refine Da rfl rfl (X_faddr rfl ?_)) <;> (refine Da rfl rfl (X_load (lB rfl rfl) ?_)) <;> (refine Da rfl rfl (X_mv rfl ?_)) <;> (refine Da rfl rfl (xIa rfl rfl (by omega) (by omega) ?_)) <;> (refine Da rfl rfl (X_faddr rfl ?_)) <;> (refine Da rfl rfl (X_load (lE rfl (by omega) rfl) ?_)) <;> (refine Da rfl rfl (X_mv rfl ?_)) <;> (refine Da rfl rfl (X_eql rfl rfl (fun _ => ?_) (fun _ => ?_))) <;> (refine Da rfl rfl (X_mv rfl ?_)) <;> (first | (refine Db rfl rfl rfl (X_load (lBA rfl rfl) ?_)) | (refine Dc rfl rfl rfl ?_)) <;> (first | (refine Db rfl rfl rfl (X_faddr rfl ?_)) | (refine Dc rfl rfl rfl ?_)) <;> (first | (refine Db rfl rfl rfl (X_load (lB rfl rfl) ?_)) | (refine Dc rfl rfl rfl ?_)) <;> (first | (refine Db rfl rfl rfl (X_mv rfl ?_)) | (refine Dc rfl rfl rfl ?_)) <;> (first | (refine Db rfl rfl rfl (xIa rfl rfl (by omega) (by omega) ?_)) | (refine Dc rfl rfl rfl ?_)) <;> (first | (refine Db rfl rfl rfl (X_faddr rfl ?_)) | (refine Dc rfl rfl rfl ?_)) <;> (first | (refine Db rfl rfl rfl (X_load (lE0 rfl (by omega) rfl) ?_)) | (refine Dc rfl rfl rfl ?_)) <;> (first | (refine Db rfl rfl rfl (xP (Has_ok lo (by omega) (by omega)) rfl (fun _ Z32 hz32 hb32 => ?_)); (obtain ⟨b32, rfl, hb32⟩ := hb32)) | (refine Dc rfl rfl rfl ?_)) <;> (first | (refine Da rfl rfl (X_pickT rfl rfl ?_)) | (refine Da rfl rfl (X_pickF rfl rfl ?_))) <;> (refine D_nil ?_))) <;> ((refine thenQ_nrm ?_; (refine W_cond rfl (fun ht => ?_) (fun ht => ?_) <;> (first | exact absurd ht (by decide) | (refine W_drw ?_; ((refine Da rfl rfl (X_load (lBA rfl rfl) ?_)) <;> (refine Da rfl rfl (X_faddr rfl ?_)) <;> (refine Da rfl rfl (X_load (lB rfl rfl) ?_)) <;> (refine Da rfl rfl (X_mv rfl ?_)) <;> (refine Da rfl rfl (xIa rfl rfl (by omega) (by omega) ?_)) <;> (refine Da rfl rfl (X_faddr rfl ?_)) <;> (refine Da rfl rfl (X_load (lE rfl (by omega) rfl) ?_)) <;> (refine Da rfl rfl (xP (With_ok lo (by omega) (by omega)) rfl (fun _ Z41 hz41 hq => ?_)); (subst hq)) <;> (refine Dn rfl (xSW rfl rfl rfl rfl ?_)) <;> (refine D_nil ?_))) | (refine W_skip ?_)))))) <;> (refine blockQ_nrm ?_)) <;> ((refine thenQ_nrm ?_; (refine W_rgn ?_; ((refine Ra rfl (X_mv rfl ?_)) <;> (refine Ra rfl (X_addI rfl rfl (by omega) (by omega) ?_)) <;> (refine Ra rfl (X_mv rfl ?_)) <;> (refine R_nil ?_))))))))) <;> (first | refine thenQ_ext ?_ | (refine thenQ_nrm ?_; (
        refine Upd.done ⟨i + 1, by omega, by omega, (by repeat' (first | exact trivial | exact rfl | constructor)), (hB ?_ (hB rfl (hB rfl (hB rfl Has.nil))))⟩
        rw [stepTo_take (by omega)]
        first
          | rw [if_pos ⟨by omega, by rw [← hb32]; exact ht⟩]
          | rw [if_neg (fun hc => absurd (hb32.trans hc.2) (by rw [ht]; exact Bool.false_ne_true))]
          | rw [if_neg (fun hc => absurd hc.1 (by omega))])))) <;> (refine blockQ_ext ?_))))) <;> ((refine thenQ_nrm ?_; (refine W_seq ?_; (refine W_rgn ?_; ((refine Ra rfl (X_load (lBA rfl rfl) ?_)) <;> (refine Rn (xSW rfl rfl rfl rfl ?_)) <;> (refine R_nil ?_))) <;> ((refine thenQ_nrm ?_; (refine W_ret ?_)))))))))))))
  <;> (refine fnP_ret (rA rfl rfl Res.nil) ?_)
  have hi : i = a.ed.length := by omega
  subst hi
  rw [List.take_length]; rfl
def nextL (g : List Ed) (m n : Nat) : List Nat := (List.range n).map fun c : Nat => stepTo g m (c : Int)
theorem nextL_len (g : List Ed) (m n : Nat) : (nextL g m n).length = n := by simp [nextL]
theorem nextL_zero (m n : Nat) : (nextL [] m n).map cS = List.replicate n (cS 0) := by
  unfold nextL
  rw [List.map_map]
  apply List.ext_getElem
  · simp
  · intro i h1 h2; simp [stepTo]
theorem nextL_put {g : List Ed} {m n i : Nat} (h : i < g.length) (hb : m.testBit (g.getD i default).f.toNat = true) (h0 : 0 ≤ (g.getD i default).l) (h1 : (g.getD i default).l < n) :
    (nextL (g.take i) m n).set (g.getD i default).l.toNat ((nextL (g.take i) m n).getD (g.getD i default).l.toNat default ||| 1 <<< (g.getD i default).t.toNat) = nextL (g.take (i + 1)) m n := by
  apply List.ext_getElem
  · simp [nextL]
  · intro j h2 h3
    have hj : j < n := by rw [nextL_len] at h3; exact h3
    rw [List.getElem_set]
    have e1 : (nextL (g.take (i + 1)) m n)[j] = stepTo (g.take (i + 1)) m (j : Int) := by simp [nextL]
    rw [e1, stepTo_take h]
    split
    · rename_i e
      rw [if_pos ⟨by omega, hb⟩, getD_eq (by rw [nextL_len]; omega)]
      have e2 : (nextL (g.take i) m n)[(g.getD i default).l.toNat]'(by rw [nextL_len]; omega) = stepTo (g.take i) m (j : Int) := by simp only [nextL, List.getElem_map, List.getElem_range]; congr 1; omega
      rw [e2]
    · rename_i e
      rw [if_neg (fun hc => e (by omega))]
      simp [nextL]
theorem nextL_no {g : List Ed} {m n i : Nat} (h : i < g.length) (hb : m.testBit (g.getD i default).f.toNat = false) : nextL (g.take i) m n = nextL (g.take (i + 1)) m n := by
  unfold nextL
  apply List.map_congr_left
  intro c _
  rw [stepTo_take h, if_neg (fun hc => absurd (hb.symm.trans hc.2) Bool.false_ne_true)]
set_option maxHeartbeats 4000000 in
theorem next_ok (lo : Nat) {Z : Vw} {v : Value} {a : Au} {m : Nat} (ha : AuV Z v a) (hA : isAutoP a) : CallP F lo 56 [v, vS m] Z fun r Z' => Fz Z' 4 r ((nextL a.ed m a.L.toNat).map cS) := by
  obtain ⟨S0, S1, L0, L1, E1, hst, hen, hed⟩ := hA
  have hL : a.L = (a.L.toNat : Int) := by omega
  generalize hn : a.L.toNat = n at hL ⊢
  obtain ⟨vs, ve, vg, rfl, hs, he, hg, q1, q2, q3⟩ := ha
  rw [hL]
  refine FnP (fn := c56) rfl rfl rfl ?_
  (refine W_seq ?_; (refine W_rgn ?_; ((refine Ra rfl (xBox rfl (fun b2 => ?_))) <;> (refine Ra rfl (xBox rfl (fun b3 => ?_))) <;> (refine Ra rfl (X_mv rfl ?_)) <;> (refine R_nil ?_))) <;> ((refine thenQ_nrm ?_; (refine W_seq ?_; (refine W_rgn ?_; ((refine Ra rfl (X_faddr rfl ?_)) <;> (refine Ra rfl (X_load (lB rfl rfl) ?_)) <;> (refine Ra rfl (xMk rfl rfl (by omega) (by omega) (by omega) rfl (fun v10 => ?_))) <;> (refine Ra rfl (X_mv rfl ?_)) <;> (refine R_nil ?_))) <;> ((refine thenQ_nrm ?_; (refine W_seq ?_; (refine W_seq ?_; (refine W_rgn ?_; ((refine Ra rfl (X_faddr rfl ?_)) <;> (refine Ra rfl (X_load (lB rfl rfl) ?_)) <;> (refine Ra rfl (xLen rfl ?_)) <;> (refine Ra rfl (X_mv rfl ?_)) <;> (refine R_nil ?_))) <;> ((refine thenQ_nrm ?_; (refine W_block ?_; ((
      refine wLoop (fun i : Nat => [(14, .int .i64 i)]) (fun i => [.arr v10 4 n ((nextL (a.ed.take i) m n).map cS), .box b3 (cS m), .box b2 [.int .i64 a.S, .int .i64 n, vs, ve, vg]]) (fun i Zi => i ≤ a.ed.length) (fun i => a.ed.length - i) 0 (by repeat' (first | exact trivial | exact rfl | constructor)) (Upd.done ⟨Nat.zero_le _, (hR (by rw [List.take_zero, nextL_zero, cS_zero]) (hB rfl (hB rfl Has.nil)))⟩) ?_
      intro i Z1 hz1 hp
      have hel := hed i
      have hlen := nextL_len (a.ed.take i) m n
      have hel : i < a.ed.length → 0 ≤ (a.ed.getD i default).f ∧ (a.ed.getD i default).f < 256 ∧ 0 ≤ (a.ed.getD i default).t ∧ (a.ed.getD i default).t < 256 ∧ 0 ≤ (a.ed.getD i default).l ∧ (a.ed.getD i default).l < n := fun h => by obtain ⟨y1, y2, y3, y4, y5, y6, y7⟩ := hel h; omega) <;> (refine W_seq ?_; (refine W_rgn ?_; ((refine Ra rfl (X_lss rfl rfl (fun _ => ?_) (fun _ => ?_))) <;> (refine R_nil ?_))) <;> ((refine thenQ_nrm ?_; (refine W_seq ?_; (refine W_cond rfl (fun ht => ?_) (fun ht => ?_) <;> (first | exact absurd ht (by decide) | (refine W_skip ?_) | (refine W_exit ?_))) <;> (first | refine thenQ_ext ?_ | (refine thenQ_nrm ?_; (refine W_seq ?_; (refine W_block ?_; (refine W_seq ?_; (refine W_rgn ?_; ((refine Ra rfl (xIa rfl rfl (by omega) (by omega) ?_)) <;> (refine Ra rfl (X_load (lEA rfl (by omega)) ?_)) <;> (refine Ra rfl (X_alloc (fun b7 => ?_))) <;> (refine Rn (xSW rfl rfl rfl rfl ?_)) <;> (refine R_nil ?_))) <;> ((refine thenQ_nrm ?_; (refine W_seq ?_; (refine W_rgn ?_; ((refine Ra rfl (X_load (lBA rfl rfl) ?_)) <;> (refine Ra rfl (X_faddr rfl ?_)) <;> (refine Ra rfl (X_load (lB rfl rfl) ?_)) <;> (refine Ra rfl (xP (has_ok lo (by omega) (by omega)) rfl (fun _ Z21 hz21 hb21 => ?_)); (obtain ⟨b21, rfl, hb21⟩ := hb21)) <;> (refine R_nil ?_))) <;> ((refine thenQ_nrm ?_; (refine W_cond rfl (fun ht => ?_) (fun ht => ?_) <;> (first | (refine W_drw ?_; ((refine Da rfl rfl (X_mv rfl ?_)) <;> (refine Da rfl rfl (X_faddr rfl ?_)) <;> (refine Da rfl rfl (X_load (lB rfl rfl) ?_)) <;> (refine Da rfl rfl (xIa rfl rfl (by omega) (by omega) ?_)) <;> (refine Da rfl rfl (X_faddr rfl ?_)) <;> (refine Da rfl rfl (X_load (lB rfl rfl) ?_)) <;> (refine Da rfl rfl (x1A (putA_ok lo (by omega) (by omega) (by omega)) rfl (fun _ Z28 hz28 o28 ho => ?_)); (subst ho)) <;> (refine D_nil ?_))) | (refine W_skip ?_))))))))) <;> (refine blockQ_nrm ?_)) <;> ((refine thenQ_nrm ?_; (refine W_rgn ?_; ((refine Ra rfl (X_addI rfl rfl (by omega) (by omega) ?_)) <;> (refine Ra rfl (X_mv rfl ?_)) <;> (refine R_nil ?_)))))))))))) <;> (first | refine thenQ_ext ?_ | (refine thenQ_nrm ?_; (
        refine Upd.done ⟨i + 1, by omega, by omega, (by repeat' (first | exact trivial | exact rfl | constructor)), (hR ?_ (hB rfl (hB rfl Has.nil)))⟩
        first
          | (rw [nextL_put (by omega) (by rw [← hb21]; exact ht) (by omega) (by omega)])
          | (rw [nextL_no (by omega) (by rw [← hb21]; exact ht)]))))) <;> (refine blockQ_ext ?_))))) <;> ((refine thenQ_nrm ?_; (refine W_seq ?_; (refine W_rgn ?_; ((refine Ra rfl (X_mv rfl ?_)) <;> (refine Ra rfl (X_mv rfl ?_)) <;> (refine R_nil ?_))) <;> ((refine thenQ_nrm ?_; (refine W_ret ?_)))))))))))))
  <;> (refine fn_ret (Res.tmp rfl Res.nil) (uA v10 (fun Z2 hz2 hf => Upd.nil ⟨rfl, ?_⟩)))
  have hi : i = a.ed.length := by omega
  subst hi
  rw [List.take_length] at hf
  exact hf
end Go.Proofs.Ytbjgnogcjglcoaa.Hm.V
