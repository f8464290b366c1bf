/- Of layer 27: ref27.First. -/
import Derived.Test.YtbjgnogcjglcoaaHF
import Derived.Test.YtbjgnogcjglcoaaA6
import Derived.Test.YtbjgnogcjglcoaaVP7
namespace Go.Proofs.Ytbjgnogcjglcoaa.Hm.V
open Go
set_option linter.all false
set_option maxRecDepth 100000
attribute [local irreducible] X S R D W Call Upd Rds Rck Sees Res Cel CallP fnQ
theorem none_of {a : Au} (hA : isAutoP a) (h : ∀ j, j < a.S.toNat + 1 → ¬ setOf a.st &&& aftN a j ≠ 0) : noneW a := fun k hk => by
  obtain ⟨j, _, hj⟩ := some_len hk
  exact h j (by have := lenW_lt hA hj; omega) hj.1
def firstQ (a : Au) (Z : Vw) (r : Value) : Prop := (noneW a ∧ r = .tuple ⟨[.slice none 0 0, .bool false]⟩) ∨ ∃ k w, lenW a k ∧ r = .tuple ⟨[w, .bool true]⟩ ∧ Ints Z w (wordR a k (setOf a.st))
set_option maxHeartbeats 4000000 in
theorem First_ok (lo : Nat) {Z : Vw} {v : Value} {a : Au} (ha : AuV Z v a) (hA : isAutoP a) : CallP F lo 25 [v] Z fun r Z' => firstQ a Z' r := by
  have hinS := isAuto_st hA
  have hinD := isAuto_ed hA
  have hS0 := hA.1
  have hS1 := hA.2.1
  have hel9 := hA.2.2.2.2.1
  have hL9 := hA.2.2.2.1
  have hV := ha
  obtain ⟨vs, ve, vg, rfl, hs, he, hg, q1, q2, q3⟩ := ha
  refine FnP (fn := c25) rfl rfl rfl ?_
  (refine W_seq ?_; (refine W_rgn ?_; ((refine Ra rfl (xBox rfl (fun b1 => ?_))) <;> (refine Ra rfl (X_mv rfl ?_)) <;> (refine Ra rfl (X_mv rfl ?_)) <;> (refine R_nil ?_))) <;> ((refine thenQ_nrm ?_; (refine W_seq ?_; (refine W_rgn ?_; ((refine Ra rfl (X_load (lBA rfl rfl) ?_)) <;> (refine Ra rfl (X_faddr rfl ?_)) <;> (refine Ra rfl (X_load (lB rfl rfl) ?_)) <;> (refine Ra rfl (xP (after_ok lo (by first | assumption | exact AuV.le (by assumption) ZC.le) hA) rfl (fun va Z13 hz13 hfa => ?_)); (have hal := aftL_len a (a.S.toNat + 1))) <;> (refine Ra rfl (X_mv rfl ?_)) <;> (refine R_nil ?_))) <;> ((refine thenQ_nrm ?_; (refine W_seq ?_; (refine W_seq ?_; (refine W_rgn ?_; ((refine Ra rfl (X_mv rfl ?_)) <;> (refine R_nil ?_))) <;> ((refine thenQ_nrm ?_; (refine W_block ?_; ((
      refine wLoop (fun i : Nat => [(5, .int .i64 i)]) (fun i => [.box b1 [.int .i64 a.S, .int .i64 a.L, vs, ve, vg]]) (fun i Zi => i ≤ a.S.toNat + 1 ∧ ∀ j, j < i → ¬ setOf a.st &&& aftN a j ≠ 0) (fun i => a.S.toNat + 1 - i) 0 (by repeat' (first | exact trivial | exact rfl | constructor)) (Upd.done ⟨⟨Nat.zero_le _, fun j hj => absurd hj (by omega)⟩, (hB rfl Has.nil)⟩) ?_
      intro i Z1 hz1 hp
      obtain ⟨hi, hno⟩ := hp
      have hgi : i < a.S.toNat + 1 → (aftL a (a.S.toNat + 1)).getD i default = aftN a i := fun h => aftL_at h) <;> (refine W_seq ?_; (refine W_seq ?_; (refine W_rgn ?_; ((refine Ra rfl (X_mv rfl ?_)) <;> (refine Ra rfl (X_mv rfl ?_)) <;> (refine Ra rfl (xLen rfl ?_)) <;> (refine Ra rfl (X_lss rfl rfl (fun _ => ?_) (fun _ => ?_))) <;> (refine R_nil ?_))) <;> ((refine thenQ_nrm ?_; (refine W_cond rfl (fun ht => ?_) (fun ht => ?_) <;> (first | exact absurd ht (by decide) | (refine W_skip ?_) | (refine W_exit ?_)))))) <;> (first | refine thenQ_ext ?_ | (refine thenQ_nrm ?_; (refine W_seq ?_; (refine W_block ?_; (refine W_seq ?_; (refine W_seq ?_; (refine W_drw ?_; ((refine Da rfl rfl (X_faddr rfl ?_)) <;> (refine Da rfl rfl (X_load (lB rfl rfl) ?_)) <;> (refine Da rfl rfl (X_mv rfl ?_)) <;> (refine Da rfl rfl (X_mv rfl ?_)) <;> (refine Da rfl rfl (xIa rfl rfl (by omega) (by omega) ?_)) <;> (refine Da rfl rfl (X_load (lEA rfl (by omega)) ?_)) <;> (refine D_consR rfl (S_do rfl (xP (Of_ok lo (by assumption) (by assumption)) rfl (fun _ Z22 hz22 hq => ⟨(by (refine rDo rfl rfl (lEA rfl (by omega)) ?_); exact Rck_nil), ?_⟩))); (subst hq)) <;> (refine Da rfl rfl (xP (Meets7_ok lo (setOf_lt hinS)) rfl (fun _ Z27 hz27 hb27 => ?_)); (obtain ⟨b27, rfl, hb27⟩ := hb27; rw [hgi (by omega)] at hb27; cases b27)) <;> (refine Da rfl rfl (X_not rfl ?_)) <;> (refine D_nil ?_))) <;> ((refine thenQ_nrm ?_; (refine W_cond rfl (fun ht => ?_) (fun ht => ?_) <;> (first | exact absurd ht (by decide) | (refine W_exit ?_) | (refine W_skip ?_)))))) <;> (first | refine thenQ_ext ?_ | (refine thenQ_nrm ?_; (refine W_seq ?_; (refine W_rgn ?_; ((refine Ra rfl (X_mv rfl ?_)) <;> (refine R_nil ?_))) <;> ((refine thenQ_nrm ?_; (refine W_seq ?_; (refine W_rgn ?_; ((refine Ra rfl (X_faddr rfl ?_)) <;> (refine Ra rfl (X_load (lB rfl rfl) ?_)) <;> (refine Ra rfl (xP (Of_ok lo (by assumption) (by assumption)) rfl (fun _ Z31 hz31 hq => ?_)); (subst hq)) <;> (refine Ra rfl (X_alloc (fun b7 => ?_))) <;> (refine Rn (xSW rfl rfl rfl rfl ?_)) <;> (refine R_nil ?_))) <;> ((refine thenQ_nrm ?_; (refine W_seq ?_; (refine W_seq ?_; (refine W_rgn ?_; ((refine Ra rfl (X_mv rfl ?_)) <;> (refine Ra rfl (X_subI rfl rfl (by omega) (by omega) ?_)) <;> (refine Ra rfl (X_mv rfl ?_)) <;> (refine R_nil ?_))) <;> ((refine thenQ_nrm ?_; (refine W_block ?_; ((
      have hme : setOf a.st &&& aftN a i ≠ 0 := hb27.1 rfl
      have hlw : lenW a i := ⟨hme, hno⟩
      refine wLoop (fun p : Int × Nat × List Int × Value => match p with | (m, s, w, we) => [(8, .int .i64 m), (6, we)]) (fun p => match p with | (m, s, w, we) => [.gro we 1 (w.map cI), .box b7 (cS s), .box b1 [.int .i64 a.S, .int .i64 a.L, vs, ve, vg]]) (fun p _ => match p with | (m, s, w, we) => -1 ≤ m ∧ m < i ∧ s < 2 ^ 256 ∧ s &&& aftN a (m + 1).toNat ≠ 0 ∧ w ++ wordR a (m + 1).toNat s = wordR a i (setOf a.st) ∧ (w.length : Int) + m + 1 = i) (fun p => match p with | (m, _) => (m + 1).toNat) ((i : Int) - 1, setOf a.st, [], .slice none 0 0) (by repeat' (first | exact trivial | exact rfl | constructor))
        (Upd.gro0 (e := 1) (by decide) (Upd.done ⟨⟨by omega, by omega, setOf_lt hinS, by rw [show ((i : Int) - 1 + 1).toNat = i by omega]; exact hme, by rw [show ((i : Int) - 1 + 1).toNat = i by omega]; rfl, by simp⟩, hG rfl (hB rfl (hB rfl Has.nil))⟩)) ?_
      rintro ⟨m, s, w, we⟩ Z2 hz2 hp2
      obtain ⟨hm0, hm1, hslt, hsm, hword, hwl⟩ : -1 ≤ m ∧ m < i ∧ s < 2 ^ 256 ∧ s &&& aftN a (m + 1).toNat ≠ 0 ∧ w ++ wordR a (m + 1).toNat s = wordR a i (setOf a.st) ∧ (w.length : Int) + m + 1 = i := hp2
      have hgm : 0 ≤ m → (aftL a (a.S.toNat + 1)).getD m.toNat default = aftN a m.toNat := fun h => aftL_at (by omega)) <;> (refine W_seq ?_; (refine W_seq ?_; (refine W_rgn ?_; ((refine Ra rfl (X_mv rfl ?_)) <;> (refine Ra rfl (X_geq rfl rfl (fun _ => ?_) (fun _ => ?_))) <;> (refine R_nil ?_))) <;> ((refine thenQ_nrm ?_; (refine W_cond rfl (fun ht => ?_) (fun ht => ?_) <;> (first | exact absurd ht (by decide) | (refine W_skip ?_) | (refine W_exit ?_)))))) <;> (first | refine thenQ_ext ?_ | (refine thenQ_nrm ?_; (refine W_seq ?_; (refine W_block ?_; (refine W_seq ?_; (refine W_rgn ?_; ((refine Ra rfl (X_mv rfl ?_)) <;> (refine R_nil ?_))) <;> ((refine thenQ_nrm ?_; (refine W_seq ?_; (refine W_block ?_; ((
      have hsm2 : s &&& aftN a (m.toNat + 1) ≠ 0 := by rw [show m.toNat + 1 = (m + 1).toNat by omega]; exact hsm
      have hlc := leastC_ok hA hsm2
      refine wLoop (fun c : Nat => [(9, .int .i64 (c : Nat))]) (fun c => [.gro we 1 (w.map cI), .box b7 (cS s), .box b1 [.int .i64 a.S, .int .i64 a.L, vs, ve, vg]]) (fun c _ => c ≤ leastC a s m.toNat) (fun c => leastC a s m.toNat - c) 0 (by repeat' (first | exact trivial | exact rfl | constructor))
        (Upd.done ⟨Nat.zero_le _, hG rfl (hB rfl (hB rfl Has.nil))⟩) ?_
      intro c Z3 hz3 hc) <;> (refine W_seq ?_; (refine W_seq ?_; (refine W_drw ?_; ((refine Da rfl rfl (X_load (lBA rfl rfl) ?_)) <;> (refine Da rfl rfl (X_load (lBA rfl rfl) ?_)) <;> (refine Da rfl rfl (X_mv rfl ?_)) <;> (refine Da rfl rfl (X_mv rfl ?_)) <;> (refine Da rfl rfl (X_mv rfl ?_)) <;> (refine Da rfl rfl (xIa rfl rfl (by omega) (by omega) ?_)) <;> (refine Da rfl rfl (X_load (lEA rfl (by omega)) ?_)) <;> (refine D_consR rfl (S_do rfl (xP (To7_ok lo (by first | assumption | exact AuV.le (by assumption) ZC.le) (by assumption)) rfl (fun _ Z41 hz41 hq => ⟨(by (refine rDo rfl rfl (lEA rfl (by omega)) ?_); exact Rck_nil), ?_⟩))); (subst hq)) <;> (refine Da rfl rfl (xP (Meets7_ok lo (stepTo_lt hinD)) rfl (fun _ Z46 hz46 hb46 => ?_)); (obtain ⟨b46, rfl, hb46⟩ := hb46; rw [hgm (by omega)] at hb46; cases b46)) <;> (refine Da rfl rfl (X_not rfl ?_)) <;> (refine D_nil ?_))) <;> ((refine thenQ_nrm ?_; (refine W_cond rfl (fun ht => ?_) (fun ht => ?_) <;> (first | exact absurd ht (by decide) | (refine W_skip ?_) | (refine W_exit ?_)))))) <;> (first | refine thenQ_ext ?_ | (refine thenQ_nrm ?_; (refine W_block ?_; (refine W_rgn ?_; ((refine Ra rfl (X_mv rfl ?_)) <;> (refine Ra rfl (X_addI rfl rfl (by omega) (by omega) ?_)) <;> (refine Ra rfl (X_mv rfl ?_)) <;> (refine R_nil ?_))) <;> (refine blockQ_nrm ?_))))) <;> (first | refine thenQ_ext ?_ | (refine thenQ_nrm ?_; (
        have hc2 : c < leastC a s m.toNat := by
          rcases Nat.lt_or_ge c (leastC a s m.toNat) with h | h
          · exact h
          · obtain rfl : c = leastC a s m.toNat := by omega
            exact absurd (hb46.2 hlc.2.1) Bool.false_ne_true
        refine Upd.done ⟨c + 1, by omega, by omega, (by repeat' (first | exact trivial | exact rfl | constructor)), hG rfl (hB rfl (hB rfl Has.nil))⟩)))) <;> (refine blockQ_ext ?_)) <;> ((refine thenQ_nrm ?_; (refine W_seq ?_; (refine W_rgn ?_; ((refine Ra rfl (X_mv rfl ?_)) <;> (refine Ra rfl (X_mv rfl ?_)) <;> (refine Ra rfl (X_bsliceC (pCons rfl Parts.nil) rfl rfl rfl (fun v52 => ?_))) <;> (refine Ra rfl (xApGm (fe := cI) (c : Int) rfl rfl rfl (by omega) (fun v53 => ?_))) <;> (refine Ra rfl (X_mv rfl ?_)) <;> (refine R_nil ?_))) <;> ((refine thenQ_nrm ?_; (refine W_rgn ?_; ((refine Ra rfl (X_load (lBA rfl rfl) ?_)) <;> (refine Ra rfl (X_load (lBA rfl rfl) ?_)) <;> (refine Ra rfl (X_mv rfl ?_)) <;> (refine Ra rfl (xP (To7_ok lo (by first | assumption | exact AuV.le (by assumption) ZC.le) (by assumption)) rfl (fun _ Z57 hz57 hq => ?_)); (subst hq)) <;> (refine Rn (xSW rfl rfl rfl rfl ?_)) <;> (refine R_nil ?_)))))))))))) <;> (refine blockQ_nrm ?_)) <;> ((refine thenQ_nrm ?_; (refine W_rgn ?_; ((refine Ra rfl (X_mv rfl ?_)) <;> (refine Ra rfl (X_subI rfl rfl (by omega) (by omega) ?_)) <;> (refine Ra rfl (X_mv rfl ?_)) <;> (refine R_nil ?_))))))))) <;> (first | refine thenQ_ext ?_ | (refine thenQ_nrm ?_; (
        obtain rfl : c = leastC a s m.toNat := by
          rcases Nat.lt_or_ge c (leastC a s m.toNat) with h | h
          · exact absurd (hb46.1 rfl) (hlc.2.2 c h)
          · omega
        refine Upd.done ⟨(m - 1, stepTo a.ed s ((leastC a s m.toNat : Nat) : Int), w ++ [((leastC a s m.toNat : Nat) : Int)], _), ?_, ?_, (by repeat' (first | exact trivial | exact rfl | constructor)), hG ?_ (hB rfl (hB rfl Has.nil))⟩
        · show (m - 1 + 1).toNat < (m + 1).toNat
          omega
        · refine ⟨by omega, by omega, stepTo_lt hinD, ?_, ?_, ?_⟩
          · rw [show (m - 1 + 1).toNat = m.toNat by omega]; exact hlc.2.1
          · rw [show (m - 1 + 1).toNat = m.toNat by omega, ← hword, show (m + 1).toNat = m.toNat + 1 by omega, List.append_assoc]
            rfl
          · rw [List.length_append, List.length_singleton]; omega
        · rfl)))) <;> (refine blockQ_ext ?_))))) <;> ((refine thenQ_nrm ?_; (refine W_seq ?_; (refine W_rgn ?_; ((refine Ra rfl (X_mv rfl ?_)) <;> (refine Ra rfl (X_mv rfl ?_)) <;> (refine Ra rfl (X_mv rfl ?_)) <;> (refine R_nil ?_))) <;> ((refine thenQ_nrm ?_; (refine W_ret ?_)))))))))))))))) <;> (first | refine blockQ_ret ?_ | refine blockQ_ext ?_)) <;> (first | refine thenQ_ret ?_ | (refine thenQ_nrm ?_; (refine W_rgn ?_; ((refine Ra rfl (X_mv rfl ?_)) <;> (refine Ra rfl (X_addI rfl rfl (by omega) (by omega) ?_)) <;> (refine Ra rfl (X_mv rfl ?_)) <;> (refine R_nil ?_))))))))) <;> (first | refine thenQ_ret ?_ | refine thenQ_ext ?_ | (refine thenQ_nrm ?_; (
        refine Upd.done ⟨i + 1, by omega, ⟨by omega, fun j hj => ?_⟩, (by repeat' (first | exact trivial | exact rfl | constructor)), (hB rfl Has.nil)⟩
        rcases Nat.lt_or_ge j i with hj | hj
        · exact hno j hj
        · obtain rfl : j = i := by omega
          exact fun h => absurd (hb27.2 h) Bool.false_ne_true)))) <;> (first | refine blockQ_ret ?_ | refine blockQ_ext ?_))))) <;> (first | refine thenQ_ret ?_ | (refine thenQ_nrm ?_; (refine W_seq ?_; (refine W_rgn ?_; ((refine Ra rfl (X_mv rfl ?_)) <;> (refine Ra rfl (X_mv rfl ?_)) <;> (refine R_nil ?_))) <;> ((refine thenQ_nrm ?_; (refine W_ret ?_)))))))))))))
  <;> (refine fn_ret (Res.tmp rfl (Res.tmp rfl Res.nil)) ?_)
  all_goals first
    | (refine Upd.nil ⟨rfl, .inl ⟨none_of hA fun j hj => hno j (by omega), rfl⟩⟩)
    | (obtain rfl : m = -1 := by omega
       have hwd : w = wordR a i (setOf a.st) := by rw [← hword]; simp [wordR]
       refine uG we fun Z9 hz9 f3 => ?_
       rw [hwd] at f3
       exact Upd.nil ⟨rfl, .inr ⟨i, we, hlw, rfl, f3⟩⟩)
end Go.Proofs.Ytbjgnogcjglcoaa.Hm.V
