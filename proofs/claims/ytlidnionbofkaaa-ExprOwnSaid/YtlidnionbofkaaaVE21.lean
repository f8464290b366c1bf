/- Trees that are the call's own: Same, spoil. -/
import Derived.Test.YtlidnionbofkaaaHF
import Derived.Test.YtlidnionbofkaaaA6
import Derived.Test.YtlidnionbofkaaaVE20
namespace Go.Proofs.Ytlidnionbofkaaa.Hm.V
open Go
set_option linter.all false
set_option maxRecDepth 100000
attribute [local irreducible] X S R D W Call Upd Rds Rck Sees Res Cel CallP fnQ
set_option maxHeartbeats 4000000 in
theorem Same_own (lo : Nat) : ∀ (t : Et) {Z : Vw} (_ : t.er.size ≤ 1000000) (t2 : Et) (_ : Tr Z t2), Call F lo 14 [.agg ⟨t.cs⟩, .agg ⟨t2.cs⟩] Z t.pts fun r _ O' => O' = t.pts ∧ ∃ b, r = .bool b ∧ (b = true ↔ t.er = t2.er) := by
  intro t
  induction t using Et.ind with
  | h op n c v ks ih =>
  intro Z hs t2 ht2
  rw [sizeT_mk] at hs
  have hkl : ks.length ≤ 1000000 := by have := Ex.len_le (ks.map Et.er); rw [List.length_map] at this; omega
  obtain ⟨op2, n2, c2, v2, ks2⟩ := t2
  rw [Tr_mk] at ht2
  obtain ⟨⟨hf2, hlen2⟩, hk2⟩ := ht2
  rw [Et.pts_mk]
  refine Fn (fn := c14) rfl rfl rfl ?_
  (refine W_seq ?_; (refine W_rgn ?_; ((refine Ra rfl (xBox rfl (fun b2 => ?_))) <;> (refine Ra rfl (xBox rfl (fun b3 => ?_))) <;> (refine Ra rfl (X_mv rfl ?_)) <;> (refine R_nil ?_))) <;> ((refine thenQ_nrm ?_; (refine W_seq ?_; (refine W_seq ?_; (refine W_rgn ?_; ((refine Ra rfl (X_faddr rfl ?_)) <;> (refine Ra rfl (X_load (lB rfl rfl) ?_)) <;> (refine Ra rfl (X_faddr rfl ?_)) <;> (refine Ra rfl (X_load (lB rfl rfl) ?_)) <;> (refine Ra rfl (X_neq rfl rfl (fun _ => ?_) (fun _ => ?_))) <;> (refine Ra rfl (X_mv rfl ?_)) <;> (first | (refine Rb rfl rfl (X_faddr rfl ?_)) | (refine Rc rfl rfl ?_)) <;> (first | (refine Rb rfl rfl (X_load (lB rfl rfl) ?_)) | (refine Rc rfl rfl ?_)) <;> (first | (refine Rb rfl rfl (X_faddr rfl ?_)) | (refine Rc rfl rfl ?_)) <;> (first | (refine Rb rfl rfl (X_load (lB rfl rfl) ?_)) | (refine Rc rfl rfl ?_)) <;> (first | (refine Rb rfl rfl (X_neq rfl rfl (fun _ => ?_) (fun _ => ?_))) | (refine Rc rfl rfl ?_)) <;> (first | (refine Ra rfl (X_pickT rfl rfl ?_)) | (refine Ra rfl (X_pickF rfl rfl ?_))) <;> (refine Ra rfl (X_mv rfl ?_)) <;> (first | (refine Rb rfl rfl (X_faddr rfl ?_)) | (refine Rc rfl rfl ?_)) <;> (first | (refine Rb rfl rfl (X_load (lB rfl rfl) ?_)) | (refine Rc rfl rfl ?_)) <;> (first | (refine Rb rfl rfl (X_faddr rfl ?_)) | (refine Rc rfl rfl ?_)) <;> (first | (refine Rb rfl rfl (X_load (lB rfl rfl) ?_)) | (refine Rc rfl rfl ?_)) <;> (first | (refine Rb rfl rfl (X_neq rfl rfl (fun _ => ?_) (fun _ => ?_))) | (refine Rc rfl rfl ?_)) <;> (first | (refine Ra rfl (X_pickT rfl rfl ?_)) | (refine Ra rfl (X_pickF rfl rfl ?_))) <;> (refine Ra rfl (X_mv rfl ?_)) <;> (first | (refine Rb rfl rfl (X_faddr rfl ?_)) | (refine Rc rfl rfl ?_)) <;> (first | (refine Rb rfl rfl (X_load (lB rfl rfl) ?_)) | (refine Rc rfl rfl ?_)) <;> (first | (refine Rb rfl rfl (xLen rfl ?_)) | (refine Rc rfl rfl ?_)) <;> (first | (refine Rb rfl rfl (X_faddr rfl ?_)) | (refine Rc rfl rfl ?_)) <;> (first | (refine Rb rfl rfl (X_load (lB rfl rfl) ?_)) | (refine Rc rfl rfl ?_)) <;> (first | (refine Rb rfl rfl (xLen rfl ?_)) | (refine Rc rfl rfl ?_)) <;> (first | (refine Rb rfl rfl (X_neq rfl rfl (fun _ => ?_) (fun _ => ?_))) | (refine Rc rfl rfl ?_)) <;> (first | (refine Ra rfl (X_pickT rfl rfl ?_)) | (refine Ra rfl (X_pickF rfl rfl ?_))) <;> (refine R_nil ?_))) <;> ((refine thenQ_nrm ?_; (refine W_cond rfl (fun ht => ?_) (fun ht => ?_) <;> (first | exact absurd ht (by decide) | (refine W_seq ?_; (refine W_rgn ?_; ((refine Ra rfl (X_mv rfl ?_)) <;> (refine R_nil ?_))) <;> ((refine thenQ_nrm ?_; (refine W_ret ?_)))) | (refine W_skip ?_)))))) <;> (first | refine thenQ_ret ?_ | (refine thenQ_nrm ?_; (refine W_seq ?_; (refine W_seq ?_; (refine W_rgn ?_; ((refine Ra rfl (X_mv rfl ?_)) <;> (refine R_nil ?_))) <;> ((refine thenQ_nrm ?_; (refine W_block ?_; ((
      refine wLoop (fun i : Nat => [(5, .int .i64 i)]) (fun _ => (.box b3 [.int .i64 op2, .int .i64 n2, .int .i64 c2, v2] :: .box b2 [.int .i64 op, .int .i64 n, .int .i64 c, v] :: .gro v 4 (ks.map Et.cs) :: Et.ptsL ks)) (fun i _ => i ≤ ks.length ∧ ∀ j, j < i → (ks.getD j default).er = (ks2.getD j default).er) (fun i => ks.length - i) 0 (by repeat' (first | exact trivial | exact rfl | constructor)) (Upd.done ⟨⟨Nat.zero_le _, fun j hj => absurd hj (by omega)⟩, hB rfl (hB rfl (hG rfl (by repeat' first | exact Has.refl' _ | apply Has.skip)))⟩) ?_
      intro i Z1 hz1 hp
      obtain ⟨hi, hp⟩ := hp
      have hsk : i < ks.length → (ks.getD i default).er.size ≤ 1000000 := fun h => (by have := sizeT_get h; omega)) <;> (refine W_seq ?_; (refine W_seq ?_; (refine W_rgn ?_; ((refine Ra rfl (X_mv rfl ?_)) <;> (refine Ra rfl (X_faddr rfl ?_)) <;> (refine Ra rfl (X_load (lB rfl rfl) ?_)) <;> (refine Ra rfl (xLen rfl ?_)) <;> (refine Ra rfl (X_lss rfl rfl (fun _ => ?_) (fun _ => ?_))) <;> (refine R_nil ?_))) <;> ((refine thenQ_nrm ?_; (refine W_cond rfl (fun ht => ?_) (fun ht => ?_) <;> (first | exact absurd ht (by decide) | (refine W_skip ?_) | (refine W_exit ?_)))))) <;> (first | refine thenQ_ext ?_ | (refine thenQ_nrm ?_; (refine W_seq ?_; (refine W_block ?_; (refine W_seq ?_; (refine W_drw ?_; ((refine Da rfl rfl (X_faddr rfl ?_)) <;> (refine Da rfl rfl (X_load (lB rfl rfl) ?_)) <;> (refine Da rfl rfl (X_mv rfl ?_)) <;> (refine Da rfl rfl (xIa rfl rfl (by omega) (by omega) ?_)) <;> (refine Da rfl rfl (X_load (lEA rfl (by omega)) ?_)) <;> (refine Da rfl rfl (X_faddr rfl ?_)) <;> (refine Da rfl rfl (X_load (lB rfl rfl) ?_)) <;> (refine Da rfl rfl (X_mv rfl ?_)) <;> (refine Da rfl rfl (xIa rfl rfl (by omega) (by omega) ?_)) <;> (refine Da rfl rfl (X_load (lEA rfl (by omega)) ?_)) <;> (refine Da rfl rfl (xNp (r := (.box b3 [.int .i64 op2, .int .i64 n2, .int .i64 c2, v2] :: .box b2 [.int .i64 op, .int .i64 n, .int .i64 c, v] :: .gro v 4 (ks.map Et.cs) :: (Et.ptsL (ks.take i) ++ Et.ptsL (ks.drop (i + 1))))) ((((ptsL_perm (by omega)).cons _).cons _).cons _) (ih (ks.getD i default) (getD_in (by omega)) (hsk (by omega)) (ks2.getD i default) (Tr.le ZC.le (hk2 _ (getD_in (by omega))))) rfl (fun _ Z51 o51 hz51 hq => ?_)); (obtain ⟨rfl, b51, rfl, hb51⟩ := hq; refine ⟨(.box b3 [.int .i64 op2, .int .i64 n2, .int .i64 c2, v2] :: .box b2 [.int .i64 op, .int .i64 n, .int .i64 c, v] :: .gro v 4 (ks.map Et.cs) :: Et.ptsL ks), ((((ptsL_perm (by omega)).cons _).cons _).cons _).symm, ?_⟩; cases b51 <;> simp only [Bool.false_eq_true, false_iff, true_iff] at hb51)) <;> (refine Da rfl rfl (X_not rfl ?_)) <;> (refine D_nil ?_))) <;> ((refine thenQ_nrm ?_; (refine W_cond rfl (fun ht => ?_) (fun ht => ?_) <;> (first | exact absurd ht (by decide) | (refine W_seq ?_; (refine W_rgn ?_; ((refine Ra rfl (X_mv rfl ?_)) <;> (refine R_nil ?_))) <;> ((refine thenQ_nrm ?_; (refine W_ret ?_)))) | (refine W_skip ?_)))))) <;> (first | refine blockQ_nrm ?_ | refine blockQ_ret ?_)) <;> (first | refine thenQ_ret ?_ | (refine thenQ_nrm ?_; (refine W_rgn ?_; ((refine Ra rfl (X_mv rfl ?_)) <;> (refine Ra rfl (X_addI rfl rfl (by omega) (by omega) ?_)) <;> (refine Ra rfl (X_mv rfl ?_)) <;> (refine R_nil ?_))))))))) <;> (first | refine thenQ_ret ?_ | refine thenQ_ext ?_ | (refine thenQ_nrm ?_; (
        refine Upd.done ⟨i + 1, by omega, ⟨by omega, fun j hj => ?_⟩, (by repeat' (first | exact trivial | exact rfl | constructor)), hB rfl (hB rfl (hG rfl (by repeat' first | exact Has.refl' _ | apply Has.skip)))⟩
        rcases Nat.lt_or_ge j i with h | h
        · exact hp j h
        · obtain rfl : j = i := by omega
          assumption)))) <;> (first | refine blockQ_ret ?_ | refine blockQ_ext ?_))))) <;> (first | refine thenQ_ret ?_ | (refine thenQ_nrm ?_; (refine W_seq ?_; (refine W_rgn ?_; ((refine Ra rfl (X_mv rfl ?_)) <;> (refine R_nil ?_))) <;> ((refine thenQ_nrm ?_; (refine W_ret ?_)))))))))))))
  <;> (refine fn_ret (Res.tmp rfl Res.nil) ?_)
  all_goals
    refine Upd.has (L := .gro v 4 (ks.map Et.cs) :: Et.ptsL ks) (hG rfl (by repeat' first | exact Has.refl' _ | apply Has.skip)) ⟨rfl, _, rfl, ?_⟩
    rw [er_eq_iff]
    simp only [Bool.false_eq_true, false_iff, true_iff]
    first
      | (rintro ⟨h1, h2, h3, h4, h5⟩
         first
           | (exfalso; omega)
           | exact absurd (h5 i (by omega)) (by assumption))
      | exact ⟨by omega, by omega, by omega, by omega, fun j hj => hp j (by omega)⟩
def Et.m1 : Et := .mk (-1) 0 0 (.slice none 0 0) []
theorem drop_at {l ks : List Et} {i : Nat} (hl : l.length = ks.length) (hd : l.drop i = ks.drop i) (h : i < ks.length) : l.getD i default = ks.getD i default := by
  rw [List.drop_eq_getElem_cons h, List.drop_eq_getElem_cons (hl ▸ h)] at hd
  rw [getD_eq h, getD_eq (hl ▸ h)]
  exact (List.cons.inj hd).1
theorem drop_next {l ks : List Et} {i : Nat} {x : Et} (hl : l.length = ks.length) (hd : l.drop i = ks.drop i) (h : i < ks.length) : (l.set i x).drop (i + 1) = ks.drop (i + 1) := by
  rw [List.drop_set_of_lt (by omega)]
  rw [List.drop_eq_getElem_cons h, List.drop_eq_getElem_cons (hl ▸ h)] at hd
  exact (List.cons.inj hd).2
theorem own_perm {l ks : List Et} {J : List Pt} {i : Nat} (hl : l.length = ks.length) (hd : l.drop i = ks.drop i) (h : i < ks.length) : (Et.ptsL (ks.drop i) ++ J).Perm ((Et.ptsL (ks.drop (i + 1)) ++ J) ++ (l.getD i default).pts) := by
  rw [drop_at hl hd h, getD_eq h, List.drop_eq_getElem_cons h, Et.ptsL, List.append_assoc]
  exact List.perm_append_comm
set_option maxHeartbeats 4000000 in
theorem spoil_own (lo : Nat) : ∀ (t : Et) {Z : Vw} (_ : t.er.size ≤ 1000000), Call F lo 32 [.agg ⟨t.cs⟩] Z t.pts fun _ _ _ => True := by
  intro t
  induction t using Et.ind with
  | h op n c v ks ih =>
  intro Z hs
  rw [sizeT_mk] at hs
  have hkl : ks.length ≤ 1000000 := by have := Ex.len_le (ks.map Et.er); rw [List.length_map] at this; omega
  rw [Et.pts_mk]
  refine Fn (fn := c32) rfl rfl rfl ?_
  (refine W_seq ?_; (refine W_rgn ?_; ((refine Ra rfl (xBox rfl (fun b1 => ?_))) <;> (refine R_nil ?_))) <;> ((refine thenQ_nrm ?_; (refine W_seq ?_; (refine W_rgn ?_; ((refine Ra rfl (X_mv rfl ?_)) <;> (refine R_nil ?_))) <;> ((refine thenQ_nrm ?_; (refine W_block ?_; ((
      refine wLoop (fun (p : Nat × List Et × List Pt) => match p with | (i, l, J) => [(2, .int .i64 (i : Nat))]) (fun p => match p with | (i, l, J) => .box b1 [.int .i64 op, .int .i64 n, .int .i64 c, v] :: .gro v 4 (l.map Et.cs) :: (Et.ptsL (ks.drop i) ++ J)) (fun p _ => match p with | (i, l, J) => i ≤ ks.length ∧ l.length = ks.length ∧ l.drop i = ks.drop i) (fun p => match p with | (i, _, _) => ks.length - i) (0, ks, []) (by repeat' (first | exact trivial | exact rfl | constructor)) (Upd.done ⟨⟨Nat.zero_le _, rfl, rfl⟩, ?_⟩) ?_
      · show Has _ (_ :: _ :: (Et.ptsL (ks.drop 0) ++ []))
        rw [List.drop_zero, List.append_nil]
        exact hB rfl (hG rfl (by repeat' first | exact Has.refl' _ | apply Has.skip))
      rintro ⟨i, l, J⟩ Z1 hz1 hp
      obtain ⟨hi, hl, hd⟩ : i ≤ ks.length ∧ l.length = ks.length ∧ l.drop i = ks.drop i := hp
      have hsk : i < ks.length → (ks.getD i default).er.size ≤ 1000000 := fun h => (by have := sizeT_get h; omega)) <;> (refine W_seq ?_; (refine W_seq ?_; (refine W_rgn ?_; ((refine Ra rfl (X_mv rfl ?_)) <;> (refine Ra rfl (X_faddr rfl ?_)) <;> (refine Ra rfl (X_load (lB rfl rfl) ?_)) <;> (refine Ra rfl (xLen rfl ?_)) <;> (refine Ra rfl (X_lss rfl rfl (fun _ => ?_) (fun _ => ?_))) <;> (refine R_nil ?_))) <;> ((refine thenQ_nrm ?_; (refine W_cond rfl (fun ht => ?_) (fun ht => ?_) <;> (first | exact absurd ht (by decide) | (refine W_skip ?_) | (refine W_exit ?_)))))) <;> (first | refine thenQ_ext ?_ | (refine thenQ_nrm ?_; (refine W_seq ?_; (refine W_block ?_; (refine W_seq ?_; (refine W_rgn ?_; ((refine Ra rfl (X_faddr rfl ?_)) <;> (refine Ra rfl (X_load (lB rfl rfl) ?_)) <;> (refine Ra rfl (X_mv rfl ?_)) <;> (refine Ra rfl (xIa rfl rfl (by omega) (by omega) ?_)) <;> (refine Ra rfl (X_load (lEA rfl (by omega)) ?_)) <;> (refine Ra rfl (xNp (r := (.box b1 [.int .i64 op, .int .i64 n, .int .i64 c, v] :: .gro v 4 (l.map Et.cs) :: (Et.ptsL (ks.drop (i + 1)) ++ J))) (((own_perm hl hd (by omega)).cons _).cons _) (ih (l.getD i default) (by rw [drop_at hl hd (by omega)]; exact getD_in (by omega)) (by rw [drop_at hl hd (by omega)]; exact hsk (by omega))) rfl (fun _ Z15 o15 hz15 hq => ?_)); (refine ⟨.box b1 [.int .i64 op, .int .i64 n, .int .i64 c, v] :: .gro v 4 (l.map Et.cs) :: (Et.ptsL (ks.drop (i + 1)) ++ (J ++ o15)), List.Perm.of_eq (by simp only [List.cons_append, List.append_assoc]), ?_⟩)) <;> (refine R_nil ?_))) <;> ((refine thenQ_nrm ?_; (refine W_rgn ?_; ((refine Ra rfl (X_faddr rfl ?_)) <;> (refine Ra rfl (X_load (lB rfl rfl) ?_)) <;> (refine Ra rfl (X_mv rfl ?_)) <;> (refine Ra rfl (X_buildC (pCons rfl Parts.nil) rfl ?_)) <;> (refine Ra rfl (xIa rfl rfl (by omega) (by omega) ?_)) <;> (refine Rn (xSG rfl rfl rfl (by omega) rfl ?_)) <;> (refine R_nil ?_)))))) <;> (refine blockQ_nrm ?_)) <;> ((refine thenQ_nrm ?_; (refine W_rgn ?_; ((refine Ra rfl (X_mv rfl ?_)) <;> (refine Ra rfl (X_addI rfl rfl (by omega) (by omega) ?_)) <;> (refine Ra rfl (X_mv rfl ?_)) <;> (refine R_nil ?_))))))))) <;> (first | refine thenQ_ext ?_ | (refine thenQ_nrm ?_; (
        refine Upd.done ⟨(i + 1, l.set i Et.m1, J ++ o15), ?_, ⟨?_, ?_, ?_⟩, (by repeat' (first | exact trivial | exact rfl | constructor)), hB rfl (hG (by rw [List.map_set]; rfl) (by repeat' first | exact Has.refl' _ | apply Has.skip))⟩
        · show ks.length - (i + 1) < ks.length - i
          omega
        · show i + 1 ≤ ks.length
          omega
        · rw [List.length_set, hl]
        · exact drop_next hl hd (by omega))))) <;> (refine blockQ_ext ?_))))))))
  <;> (refine fn_nrm Res.nil ?_)
  all_goals exact Upd.done trivial
end Go.Proofs.Ytlidnionbofkaaa.Hm.V
