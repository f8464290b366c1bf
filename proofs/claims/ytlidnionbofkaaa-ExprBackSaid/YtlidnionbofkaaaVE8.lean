import Derived.Test.YtlidnionbofkaaaHF
import Derived.Test.YtlidnionbofkaaaA6
import Derived.Test.YtlidnionbofkaaaVE7
namespace Go.Proofs.Ytlidnionbofkaaa.Hm.V
open Go
set_option linter.all false
set_option maxRecDepth 100000
attribute [local irreducible] X XG S R D W Call CallG Upd Rds Rck Sees Res Cel CallP fnQ fnG
theorem er_eq_iff {op n c op2 n2 c2 : Int} {v v2 : Value} {ks ks2 : List Et} : (Et.mk op n c v ks).er = (Et.mk op2 n2 c2 v2 ks2).er ↔ op = op2 ∧ n = n2 ∧ c = c2 ∧ ks.length = ks2.length ∧ ∀ i, i < ks.length → (ks.getD i default).er = (ks2.getD i default).er := by
  rw [Et.er_mk, Et.er_mk]
  constructor
  · intro h
    injection h with h1 h2 h3 h4
    refine ⟨h1, h2, h3, by have := congrArg List.length h4; simpa using this, fun i hi => ?_⟩
    have hl : ks.length = ks2.length := by have := congrArg List.length h4; simpa using this
    rw [← map_get (f := Et.er) hi, ← map_get (f := Et.er) (hl ▸ hi), h4]
  · rintro ⟨rfl, rfl, rfl, hl, h⟩
    congr 1
    apply List.ext_getElem (by simpa using hl)
    intro i h1 h2
    have hi : i < ks.length := by simpa using h1
    have := h i hi
    rw [getD_eq hi, getD_eq (hl ▸ hi)] at this
    simpa using this
theorem sizeT_get {ks : List Et} {i : Nat} (h : i < ks.length) : (ks.getD i default).er.size ≤ Ex.sizeL (ks.map Et.er) := by
  have := Ex.size_get (ks := ks.map Et.er) (i := i) (by simpa using h)
  rwa [map_get h] at this
def Et.z : Et := .mk 0 0 0 (.slice none 0 0) []
theorem Tr.z (Z : Vw) : Tr Z Et.z := Tr_mk.2 ⟨⟨Fz.nil _ _, by decide⟩, fun a ha => absurd ha (by simp)⟩
set_option maxHeartbeats 4000000 in
theorem Same_ok (lo : Nat)  : ∀ (t : Et) {Z : Vw} (_ : Tr Z t) (t2 : Et) (_ : Tr Z t2), CallP F lo 14 [.agg ⟨t.cs⟩, .agg ⟨t2.cs⟩] Z fun r _ => ∃ b, r = .bool b ∧ (b = true ↔ t.er = t2.er) := by
  intro t
  induction t using Et.ind with
  | h op n c v ks ih =>
  intro Z ht t2 ht2
  rw [Tr_mk] at ht
  obtain ⟨⟨hf, hlen⟩, hk⟩ := ht
  have hEl : (ks.map Et.er).length = ks.length := List.length_map _
  obtain ⟨op2, n2, c2, v2, ks2⟩ := t2
  rw [Tr_mk] at ht2
  obtain ⟨⟨hf2, hlen2⟩, hk2⟩ := ht2
  simp only [Et.cs]
  refine FnP (fn := c14) rfl rfl rfl ?_
  (refine W_seq ?_; (refine W_rgn ?_; ((refine Ra rfl (xBox rfl (fun b2 => ?_))) <;> (refine Ra rfl (xBox rfl (fun b3 => ?_))) <;> (refine Ra rfl (X_mv rfl ?_)) <;> (refine R_nil ?_))) <;> ((refine thenQ_nrm ?_; (refine W_seq ?_; (refine W_seq ?_; (refine W_rgn ?_; ((refine Ra rfl (X_faddr rfl ?_)) <;> (refine Ra rfl (X_load (lB rfl rfl) ?_)) <;> (refine Ra rfl (X_faddr rfl ?_)) <;> (refine Ra rfl (X_load (lB rfl rfl) ?_)) <;> (refine Ra rfl (X_neq rfl rfl (fun _ => ?_) (fun _ => ?_))) <;> (refine Ra rfl (X_mv rfl ?_)) <;> (first | (refine Rb rfl rfl (X_faddr rfl ?_)) | (refine Rc rfl rfl ?_)) <;> (first | (refine Rb rfl rfl (X_load (lB rfl rfl) ?_)) | (refine Rc rfl rfl ?_)) <;> (first | (refine Rb rfl rfl (X_faddr rfl ?_)) | (refine Rc rfl rfl ?_)) <;> (first | (refine Rb rfl rfl (X_load (lB rfl rfl) ?_)) | (refine Rc rfl rfl ?_)) <;> (first | (refine Rb rfl rfl (X_neq rfl rfl (fun _ => ?_) (fun _ => ?_))) | (refine Rc rfl rfl ?_)) <;> (first | (refine Ra rfl (X_pickT rfl rfl ?_)) | (refine Ra rfl (X_pickF rfl rfl ?_))) <;> (refine Ra rfl (X_mv rfl ?_)) <;> (first | (refine Rb rfl rfl (X_faddr rfl ?_)) | (refine Rc rfl rfl ?_)) <;> (first | (refine Rb rfl rfl (X_load (lB rfl rfl) ?_)) | (refine Rc rfl rfl ?_)) <;> (first | (refine Rb rfl rfl (X_faddr rfl ?_)) | (refine Rc rfl rfl ?_)) <;> (first | (refine Rb rfl rfl (X_load (lB rfl rfl) ?_)) | (refine Rc rfl rfl ?_)) <;> (first | (refine Rb rfl rfl (X_neq rfl rfl (fun _ => ?_) (fun _ => ?_))) | (refine Rc rfl rfl ?_)) <;> (first | (refine Ra rfl (X_pickT rfl rfl ?_)) | (refine Ra rfl (X_pickF rfl rfl ?_))) <;> (refine Ra rfl (X_mv rfl ?_)) <;> (first | (refine Rb rfl rfl (X_faddr rfl ?_)) | (refine Rc rfl rfl ?_)) <;> (first | (refine Rb rfl rfl (X_load (lB rfl rfl) ?_)) | (refine Rc rfl rfl ?_)) <;> (first | (refine Rb rfl rfl (xLen rfl ?_)) | (refine Rc rfl rfl ?_)) <;> (first | (refine Rb rfl rfl (X_faddr rfl ?_)) | (refine Rc rfl rfl ?_)) <;> (first | (refine Rb rfl rfl (X_load (lB rfl rfl) ?_)) | (refine Rc rfl rfl ?_)) <;> (first | (refine Rb rfl rfl (xLen rfl ?_)) | (refine Rc rfl rfl ?_)) <;> (first | (refine Rb rfl rfl (X_neq rfl rfl (fun _ => ?_) (fun _ => ?_))) | (refine Rc rfl rfl ?_)) <;> (first | (refine Ra rfl (X_pickT rfl rfl ?_)) | (refine Ra rfl (X_pickF rfl rfl ?_))) <;> (refine R_nil ?_))) <;> ((refine thenQ_nrm ?_; (refine W_cond rfl (fun ht => ?_) (fun ht => ?_) <;> (first | exact absurd ht (by decide) | (refine W_seq ?_; (refine W_rgn ?_; ((refine Ra rfl (X_mv rfl ?_)) <;> (refine R_nil ?_))) <;> ((refine thenQ_nrm ?_; (refine W_ret ?_)))) | (refine W_skip ?_)))))) <;> (first | refine thenQ_ret ?_ | (refine thenQ_nrm ?_; (refine W_seq ?_; (refine W_seq ?_; (refine W_rgn ?_; ((refine Ra rfl (X_mv rfl ?_)) <;> (refine R_nil ?_))) <;> ((refine thenQ_nrm ?_; (refine W_block ?_; ((
      refine wLoop (fun i : Nat => [(5, .int .i64 i)]) (fun _ => [.box b3 [.int .i64 op2, .int .i64 n2, .int .i64 c2, v2], .box b2 [.int .i64 op, .int .i64 n, .int .i64 c, v]]) (fun i _ => i ≤ ks.length ∧ ∀ j, j < i → (ks.getD j default).er = (ks2.getD j default).er) (fun i => ks.length - i) 0 (by repeat' (first | exact trivial | exact rfl | constructor)) (Upd.done ⟨⟨Nat.zero_le _, fun j hj => absurd hj (by omega)⟩, hB rfl (hB rfl Has.nil)⟩) ?_
      intro i Z1 hz1 hp
      obtain ⟨hi, hp⟩ := hp) <;> (refine W_seq ?_; (refine W_seq ?_; (refine W_rgn ?_; ((refine Ra rfl (X_mv rfl ?_)) <;> (refine Ra rfl (X_faddr rfl ?_)) <;> (refine Ra rfl (X_load (lB rfl rfl) ?_)) <;> (refine Ra rfl (xLen rfl ?_)) <;> (refine Ra rfl (X_lss rfl rfl (fun _ => ?_) (fun _ => ?_))) <;> (refine R_nil ?_))) <;> ((refine thenQ_nrm ?_; (refine W_cond rfl (fun ht => ?_) (fun ht => ?_) <;> (first | exact absurd ht (by decide) | (refine W_skip ?_) | (refine W_exit ?_)))))) <;> (first | refine thenQ_ext ?_ | (refine thenQ_nrm ?_; (refine W_seq ?_; (refine W_block ?_; (refine W_seq ?_; (refine W_drw ?_; ((refine Da rfl rfl (X_faddr rfl ?_)) <;> (refine Da rfl rfl (X_load (lB rfl rfl) ?_)) <;> (refine Da rfl rfl (X_mv rfl ?_)) <;> (refine Da rfl rfl (xIa rfl rfl (by omega) (by omega) ?_)) <;> (refine Da rfl rfl (X_load (lEA rfl (by omega)) ?_)) <;> (refine Da rfl rfl (X_faddr rfl ?_)) <;> (refine Da rfl rfl (X_load (lB rfl rfl) ?_)) <;> (refine Da rfl rfl (X_mv rfl ?_)) <;> (refine Da rfl rfl (xIa rfl rfl (by omega) (by omega) ?_)) <;> (refine Da rfl rfl (X_load (lEA rfl (by omega)) ?_)) <;> (refine Da rfl rfl (xP (ih _ (getD_in (by omega)) (Tr.le ZC.le (hk _ (getD_in (by omega)))) (ks2.getD i default) (Tr.le ZC.le (hk2 _ (getD_in (by omega))))) rfl (fun _ Z51 hz51 hb51 => ?_)); (obtain ⟨b51, rfl, hb51⟩ := hb51; cases b51 <;> simp only [Bool.false_eq_true, false_iff, true_iff] at hb51)) <;> (refine Da rfl rfl (X_not rfl ?_)) <;> (refine D_nil ?_))) <;> ((refine thenQ_nrm ?_; (refine W_cond rfl (fun ht => ?_) (fun ht => ?_) <;> (first | exact absurd ht (by decide) | (refine W_seq ?_; (refine W_rgn ?_; ((refine Ra rfl (X_mv rfl ?_)) <;> (refine R_nil ?_))) <;> ((refine thenQ_nrm ?_; (refine W_ret ?_)))) | (refine W_skip ?_)))))) <;> (first | refine blockQ_nrm ?_ | refine blockQ_ret ?_)) <;> (first | refine thenQ_ret ?_ | (refine thenQ_nrm ?_; (refine W_rgn ?_; ((refine Ra rfl (X_mv rfl ?_)) <;> (refine Ra rfl (X_addI rfl rfl (by omega) (by omega) ?_)) <;> (refine Ra rfl (X_mv rfl ?_)) <;> (refine R_nil ?_))))))))) <;> (first | refine thenQ_ret ?_ | refine thenQ_ext ?_ | (refine thenQ_nrm ?_; (
        refine Upd.done ⟨i + 1, by omega, ⟨by omega, fun j hj => ?_⟩, (by repeat' (first | exact trivial | exact rfl | constructor)), hB rfl (hB rfl Has.nil)⟩
        rcases Nat.lt_or_ge j i with h | h
        · exact hp j h
        · obtain rfl : j = i := by omega
          assumption)))) <;> (first | refine blockQ_ret ?_ | refine blockQ_ext ?_))))) <;> (first | refine thenQ_ret ?_ | (refine thenQ_nrm ?_; (refine W_seq ?_; (refine W_rgn ?_; ((refine Ra rfl (X_mv rfl ?_)) <;> (refine R_nil ?_))) <;> ((refine thenQ_nrm ?_; (refine W_ret ?_)))))))))))))
  <;> (refine fnP_ret (Res.tmp rfl Res.nil) ?_)
  all_goals
    refine ⟨_, rfl, ?_⟩
    rw [er_eq_iff]
    simp only [Bool.false_eq_true, false_iff, true_iff]
    first
      | (rintro ⟨h1, h2, h3, h4, h5⟩
         first
           | (exfalso; omega)
           | exact absurd (h5 i (by omega)) (by assumption))
      | exact ⟨by omega, by omega, by omega, by omega, fun j hj => hp j (by omega)⟩
end Go.Proofs.Ytlidnionbofkaaa.Hm.V
