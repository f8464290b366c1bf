import Derived.Test.YtbjgnogcjglcoaaHF
import Derived.Test.YtbjgnogcjglcoaaA6
import Derived.Test.YtbjgnogcjglcoaaVT11
namespace Go.Proofs.Ytbjgnogcjglcoaa.Hm.V
open Go
set_option linter.all false
set_option maxRecDepth 100000
attribute [local irreducible] X S R D W Call Upd Rds Rck Sees Res Cel CallP fnQ
theorem byL_cnt {g : List Ed} {i k : Nat} (h : i < g.length) : (byL (g.take (i + 1)) k).length = (byL (g.take i) k).length + (if (g.getD i default).l.toNat = k then 1 else 0) := by
  rw [byL_take h]
  split <;> simp
set_option maxHeartbeats 4000000 in
theorem with_ok (lo : Nat) {Z : Vw} {v : Value} {a : Au} {c : Nat} (ha : AuV Z v a) (hA : isAutoP a) : CallP F lo 93 [v, .int .i64 (c : Int)] Z fun r _ => r = .int .i64 ((byL a.ed c).length : Nat) := by
  have hS0 := hA.1
  have hS1 := hA.2.1
  have hL0 := hA.2.2.1
  have hL1 := hA.2.2.2.1
  have hedl := hA.2.2.2.2.1
  have hrst := hA.2.2.2.2.2.1
  have hren := hA.2.2.2.2.2.2.1
  have hstl := rising_len hrst hS0
  have henl := rising_len hren hS0
  have hedi := edsIn.of hA
  have hV := ha
  obtain ⟨vs, ve, vg, rfl, hs, he, hg, q1, q2, q3⟩ := ha
  refine FnP (fn := c93) rfl rfl rfl ?_
  (refine W_seq ?_; (refine W_rgn ?_; ((refine Ra rfl (xBox rfl (fun b2 => ?_))) <;> (refine Ra rfl (X_mv rfl ?_)) <;> (refine R_nil ?_))) <;> ((refine thenQ_nrm ?_; (refine W_seq ?_; (refine W_rgn ?_; ((refine Ra rfl (X_mv rfl ?_)) <;> (refine R_nil ?_))) <;> ((refine thenQ_nrm ?_; (refine W_seq ?_; (refine W_seq ?_; (refine W_rgn ?_; ((refine Ra rfl (X_mv rfl ?_)) <;> (refine R_nil ?_))) <;> ((refine thenQ_nrm ?_; (refine W_block ?_; ((
      refine wLoop (fun i : Nat => [(6, .int .i64 (i : Nat)), (5, .int .i64 (((byL (a.ed.take i) c).length : Nat) : Int))]) (fun i => [.box b2 [.int .i64 a.S, .int .i64 a.L, vs, ve, vg]]) (fun i Zi => i ≤ a.ed.length) (fun i => a.ed.length - i) 0 (by rw [List.take_zero]; exact (by repeat' (first | exact trivial | exact rfl | constructor))) (Upd.done ⟨Nat.zero_le _, (hB rfl Has.nil)⟩) ?_
      intro i Z1 hz1 hp
      have hel := fun h : i < a.ed.length => hedi _ (getD_mem h)
      have hbl := byL_le (a.ed.take i) c
      rw [List.length_take] at hbl) <;> (refine W_seq ?_; (refine W_seq ?_; (refine W_rgn ?_; ((refine Ra rfl (X_mv rfl ?_)) <;> (refine Ra rfl (X_faddr rfl ?_)) <;> (refine Ra rfl (X_load (lB rfl rfl) ?_)) <;> (refine Ra rfl (xLen rfl ?_)) <;> (refine Ra rfl (X_lss rfl rfl (fun _ => ?_) (fun _ => ?_))) <;> (refine R_nil ?_))) <;> ((refine thenQ_nrm ?_; (refine W_cond rfl (fun ht => ?_) (fun ht => ?_) <;> (first | exact absurd ht (by decide) | (refine W_skip ?_) | (refine W_exit ?_)))))) <;> (first | refine thenQ_ext ?_ | (refine thenQ_nrm ?_; (refine W_seq ?_; (refine W_block ?_; (refine W_seq ?_; (refine W_rgn ?_; ((refine Ra rfl (X_faddr rfl ?_)) <;> (refine Ra rfl (X_load (lB rfl rfl) ?_)) <;> (refine Ra rfl (X_mv rfl ?_)) <;> (refine Ra rfl (xIa rfl rfl (by omega) (by omega) ?_)) <;> (refine Ra rfl (X_faddr rfl ?_)) <;> (refine Ra rfl (X_load (lE rfl (by omega) rfl) ?_)) <;> (refine Ra rfl (X_mv rfl ?_)) <;> (refine Ra rfl (X_eql rfl rfl (fun _ => ?_) (fun _ => ?_))) <;> (refine R_nil ?_))) <;> ((refine thenQ_nrm ?_; (refine W_cond rfl (fun ht => ?_) (fun ht => ?_) <;> (first | exact absurd ht (by decide) | (refine W_rgn ?_; ((refine Ra rfl (X_mv rfl ?_)) <;> (refine Ra rfl (X_addI rfl rfl (by omega) (by omega) ?_)) <;> (refine Ra rfl (X_mv rfl ?_)) <;> (refine R_nil ?_))) | (refine W_skip ?_)))))) <;> (refine blockQ_nrm ?_)) <;> ((refine thenQ_nrm ?_; (refine W_rgn ?_; ((refine Ra rfl (X_mv rfl ?_)) <;> (refine Ra rfl (X_addI rfl rfl (by omega) (by omega) ?_)) <;> (refine Ra rfl (X_mv rfl ?_)) <;> (refine R_nil ?_))))))))) <;> (first | refine thenQ_ext ?_ | (refine thenQ_nrm ?_; (
        refine Upd.done ⟨i + 1, by omega, by omega, ?_, (hB rfl Has.nil)⟩
        have hcn := byL_cnt (g := a.ed) (k := c) (show i < a.ed.length by omega)
        first
          | (rw [if_pos (by omega)] at hcn
             rw [hcn]
             exact (by repeat' (first | exact trivial | exact rfl | constructor)))
          | (rw [if_neg (by omega), Nat.add_zero] at hcn
             rw [hcn]
             exact (by repeat' (first | exact trivial | exact rfl | constructor))))))) <;> (refine blockQ_ext ?_))))) <;> ((refine thenQ_nrm ?_; (refine W_seq ?_; (refine W_rgn ?_; ((refine Ra rfl (X_mv rfl ?_)) <;> (refine Ra rfl (X_mv rfl ?_)) <;> (refine R_nil ?_))) <;> ((refine thenQ_nrm ?_; (refine W_ret ?_)))))))))))))
  <;> (refine fnP_ret (Res.tmp rfl Res.nil) ?_)
  obtain rfl : i = a.ed.length := by omega
  rw [List.take_length]; rfl
set_option maxHeartbeats 4000000 in
theorem BothR_ok (lo : Nat) {Z : Vw} {v u : Value} {a b : Au} (ha : AuV Z v a) (hb : AuV Z u b) (hA : isAutoP a) (hAb : isAutoP b) : CallP F lo 49 [v, u] Z fun r _ => ∃ q, r = .bool q ∧ (q = true ↔ bothOv a b) := by
  have hU := hb
  have hS0 := hA.1
  have hS1 := hA.2.1
  have hL0 := hA.2.2.1
  have hL1 := hA.2.2.2.1
  have hedl := hA.2.2.2.2.1
  have hrst := hA.2.2.2.2.2.1
  have hren := hA.2.2.2.2.2.2.1
  have hstl := rising_len hrst hS0
  have henl := rising_len hren hS0
  have hedi := edsIn.of hA
  have hS0b := hAb.1
  have hS1b := hAb.2.1
  have hL0b := hAb.2.2.1
  have hL1b := hAb.2.2.2.1
  have hedlb := hAb.2.2.2.2.1
  have hrstb := hAb.2.2.2.2.2.1
  have hrenb := hAb.2.2.2.2.2.2.1
  have hstlb := rising_len hrstb hS0b
  have henlb := rising_len hrenb hS0b
  have hedib := edsIn.of hAb
  have hV := ha
  obtain ⟨vs, ve, vg, rfl, hs, he, hg, q1, q2, q3⟩ := ha
  obtain ⟨us, ue, ug, rfl, ks, ke, kg, p1, p2, p3⟩ := hb
  refine FnP (fn := c49) rfl rfl rfl ?_
  (refine W_seq ?_; (refine W_rgn ?_; ((refine Ra rfl (xBox rfl (fun b2 => ?_))) <;> (refine Ra rfl (xBox rfl (fun b3 => ?_))) <;> (refine Ra rfl (X_mv rfl ?_)) <;> (refine R_nil ?_))) <;> ((refine thenQ_nrm ?_; (refine W_seq ?_; (refine W_rgn ?_; ((refine Ra rfl (X_mv rfl ?_)) <;> (refine R_nil ?_))) <;> ((refine thenQ_nrm ?_; (refine W_seq ?_; (refine W_seq ?_; (refine W_rgn ?_; ((refine Ra rfl (X_mv rfl ?_)) <;> (refine R_nil ?_))) <;> ((refine thenQ_nrm ?_; (refine W_block ?_; ((
      refine wLoop (fun c : Nat => [(6, .int .i64 (c : Nat)), (5, .int .i64 ((cntN a b c : Nat) : Int))]) (fun _ => [.box b2 [.int .i64 a.S, .int .i64 a.L, vs, ve, vg], .box b3 [.int .i64 b.S, .int .i64 b.L, us, ue, ug]]) (fun c _ => c ≤ a.L.toNat) (fun c => a.L.toNat - c) 0 (by repeat' (first | exact trivial | exact rfl | constructor))
        (Upd.done ⟨Nat.zero_le _, hB rfl (hB rfl Has.nil)⟩) ?_
      intro c Z2 hz2 hc
      have hmb := mulby hedl hedlb c
      have hcs := cntN_small hedl hedlb c) <;> (refine W_seq ?_; (refine W_seq ?_; (refine W_rgn ?_; ((refine Ra rfl (X_mv rfl ?_)) <;> (refine Ra rfl (X_faddr rfl ?_)) <;> (refine Ra rfl (X_load (lB rfl rfl) ?_)) <;> (refine Ra rfl (X_lss rfl rfl (fun _ => ?_) (fun _ => ?_))) <;> (refine R_nil ?_))) <;> ((refine thenQ_nrm ?_; (refine W_cond rfl (fun ht => ?_) (fun ht => ?_) <;> (first | exact absurd ht (by decide) | (refine W_skip ?_) | (refine W_exit ?_)))))) <;> (first | refine thenQ_ext ?_ | (refine thenQ_nrm ?_; (refine W_seq ?_; (refine W_block ?_; (refine W_drw ?_; ((refine Da rfl rfl (X_mv rfl ?_)) <;> (refine Da rfl rfl (X_load (lBA rfl rfl) ?_)) <;> (refine Da rfl rfl (X_mv rfl ?_)) <;> (refine Da rfl rfl (X_load (lBA rfl rfl) ?_)) <;> (refine Da rfl rfl (X_mv rfl ?_)) <;> (refine D_consR rfl (S_do rfl (xP (with_ok lo (by first | assumption | exact AuV.le (by assumption) ZC.le) hA) rfl (fun _ Z16 hz16 hq => ⟨(by (refine rDo rfl rfl (lBA rfl rfl) ?_); exact Rck_nil), ?_⟩))); (subst hq)) <;> (refine Da rfl rfl (xP (with_ok lo (by first | assumption | exact AuV.le (by assumption) ZC.le) hAb) rfl (fun _ Z19 hz19 hq => ?_)); (subst hq)) <;> (refine Da rfl rfl (X_mulI rfl rfl (by first | omega | assumption) (by first | omega | assumption) ?_)) <;> (refine Da rfl rfl (X_addI rfl rfl (by omega) (by omega) ?_)) <;> (refine Da rfl rfl (X_mv rfl ?_)) <;> (refine D_nil ?_))) <;> (refine blockQ_nrm ?_)) <;> ((refine thenQ_nrm ?_; (refine W_rgn ?_; ((refine Ra rfl (X_mv rfl ?_)) <;> (refine Ra rfl (X_addI rfl rfl (by omega) (by omega) ?_)) <;> (refine Ra rfl (X_mv rfl ?_)) <;> (refine R_nil ?_))))))))) <;> (first | refine thenQ_ext ?_ | (refine thenQ_nrm ?_; (
        refine Upd.done ⟨c + 1, by omega, by omega, ?_, hB rfl (hB rfl Has.nil)⟩
        have hce : ((cntN a b (c + 1) : Nat) : Int) = (cntN a b c : Int) + ((byL a.ed c).length : Int) * ((byL b.ed c).length : Int) := by rw [cntN, Int.natCast_add, Int.natCast_mul]
        rw [hce]
        exact (by repeat' (first | exact trivial | exact rfl | constructor)))))) <;> (refine blockQ_ext ?_))))) <;> ((refine thenQ_nrm ?_; (refine W_seq ?_; (refine W_rgn ?_; ((refine Ra rfl (X_faddr rfl ?_)) <;> (refine Ra rfl (X_load (lB rfl rfl) ?_)) <;> (refine Ra rfl (X_faddr rfl ?_)) <;> (refine Ra rfl (X_load (lB rfl rfl) ?_)) <;> (refine Ra rfl (X_mulI rfl rfl (by have := mul256 hS0 hS1 hS0b hS1b; omega) (by have := mul256 hS0 hS1 hS0b hS1b; omega) ?_)) <;> (refine Ra rfl (X_gtr rfl rfl (fun _ => ?_) (fun _ => ?_))) <;> (refine Ra rfl (X_mv rfl ?_)) <;> (first | (refine Rb rfl rfl (X_mv rfl ?_)) | (refine Rc rfl rfl ?_)) <;> (first | (refine Rb rfl rfl (X_gtr rfl rfl (fun _ => ?_) (fun _ => ?_))) | (refine Rc rfl rfl ?_)) <;> (first | (refine Ra rfl (X_pickT rfl rfl ?_)) | (refine Ra rfl (X_pickF rfl rfl ?_))) <;> (refine Ra rfl (X_mv rfl ?_)) <;> (refine R_nil ?_))) <;> ((refine thenQ_nrm ?_; (refine W_ret ?_)))))))))))))
  <;> (refine fnP_ret (Res.tmp rfl Res.nil) ?_)
  all_goals
    obtain rfl : c = a.L.toNat := by omega
    exact ⟨_, rfl, by unfold bothOv; simp; omega⟩
end Go.Proofs.Ytbjgnogcjglcoaa.Hm.V
