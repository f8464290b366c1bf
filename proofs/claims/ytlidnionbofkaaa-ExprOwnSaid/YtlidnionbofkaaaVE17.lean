/- The reference's Events. -/
import Derived.Test.YtlidnionbofkaaaHF
import Derived.Test.YtlidnionbofkaaaA6
import Derived.Test.YtlidnionbofkaaaVE16
namespace Go.Proofs.Ytlidnionbofkaaa.Hm.V
open Go
set_option linter.all false
set_option maxRecDepth 100000
attribute [local irreducible] X S R D W Call Upd Rds Rck Sees Res Cel CallP fnQ
theorem eqv_E (p q : Int × Int) : eqv (.cells 3 [(0, .int), (1, .int), (2, .int)]) (.agg ⟨cE p⟩) (.agg ⟨cE q⟩) = some (decide (p = q)) := by
  obtain ⟨a, b⟩ := p
  obtain ⟨c, d⟩ := q
  by_cases h1 : a = c
  · by_cases h2 : b = d
    · subst h1; subst h2
      simp [eqv, eqcells, cE, veq0]
    · simp [eqv, eqcells, cE, veq0, h1, h2]
  · simp [eqv, eqcells, cE, veq0, h1]
set_option maxHeartbeats 4000000 in
theorem events_ok (lo : Nat) {Z : Vw} {v1 v2 : Value} {l : List (Int × Int)} (h1 : Fz Z 3 v1 (l.map cE)) (h2 : Fz Z 3 v2 (l.map cE)) (hl : l.length < 1000000) : CallP F lo 21 [v1, v2] Z fun r _ => r = .bool true := by
  refine FnP (fn := c21) rfl rfl rfl ?_
  (refine W_seq ?_; (refine W_rgn ?_; ((refine Ra rfl (X_mv rfl ?_)) <;> (refine R_nil ?_))) <;> ((refine thenQ_nrm ?_; (refine W_seq ?_; (refine W_seq ?_; (refine W_rgn ?_; ((refine Ra rfl (X_mv rfl ?_)) <;> (refine Ra rfl (xLen rfl ?_)) <;> (refine Ra rfl (X_mv rfl ?_)) <;> (refine Ra rfl (xLen rfl ?_)) <;> (refine Ra rfl (X_neq rfl rfl (fun _ => ?_) (fun _ => ?_))) <;> (refine R_nil ?_))) <;> ((refine thenQ_nrm ?_; (refine W_cond rfl (fun ht => ?_) (fun ht => ?_) <;> (first | exact absurd ht (by decide) | (refine W_seq ?_; (refine W_rgn ?_; ((refine Ra rfl (X_mv rfl ?_)) <;> (refine R_nil ?_))) <;> ((refine thenQ_nrm ?_; (refine W_ret ?_)))) | (refine W_skip ?_)))))) <;> (first | refine thenQ_ret ?_ | (refine thenQ_nrm ?_; (refine W_seq ?_; (refine W_seq ?_; (refine W_rgn ?_; ((refine Ra rfl (X_mv rfl ?_)) <;> (refine R_nil ?_))) <;> ((refine thenQ_nrm ?_; (refine W_block ?_; ((
      refine wLoop (fun i : Nat => [(5, .int .i64 i)]) (fun i => []) (fun i Zi => i ≤ l.length) (fun i => l.length - i) 0 (by repeat' (first | exact trivial | exact rfl | constructor)) (Upd.done ⟨Nat.zero_le _, Has.nil⟩) ?_
      intro i Z1 hz1 hp
      skip) <;> (refine W_seq ?_; (refine W_seq ?_; (refine W_rgn ?_; ((refine Ra rfl (X_mv rfl ?_)) <;> (refine Ra rfl (X_mv rfl ?_)) <;> (refine Ra rfl (xLen rfl ?_)) <;> (refine Ra rfl (X_lss rfl rfl (fun _ => ?_) (fun _ => ?_))) <;> (refine R_nil ?_))) <;> ((refine thenQ_nrm ?_; (refine W_cond rfl (fun ht => ?_) (fun ht => ?_) <;> (first | exact absurd ht (by decide) | (refine W_skip ?_) | (refine W_exit ?_)))))) <;> (first | refine thenQ_ext ?_ | (refine thenQ_nrm ?_; (refine W_seq ?_; (refine W_block ?_; (refine W_seq ?_; (refine W_drw ?_; ((refine Da rfl rfl (X_mv rfl ?_)) <;> (refine Da rfl rfl (X_mv rfl ?_)) <;> (refine Da rfl rfl (xIa rfl rfl (by omega) (by omega) ?_)) <;> (refine Da rfl rfl (X_load (lEA rfl (by omega)) ?_)) <;> (refine Da rfl rfl (X_mv rfl ?_)) <;> (refine Da rfl rfl (X_mv rfl ?_)) <;> (refine Da rfl rfl (xIa rfl rfl (by omega) (by omega) ?_)) <;> (refine Da rfl rfl (X_load (lEA rfl (by omega)) ?_)) <;> (refine Da rfl rfl (X_eqP rfl rfl (eqv_E (l.getD i default) (l.getD i default)) (fun _ => ?_) (fun h9 => absurd rfl h9))) <;> (refine D_nil ?_))) <;> ((refine thenQ_nrm ?_; (refine W_cond rfl (fun ht => ?_) (fun ht => ?_) <;> (first | exact absurd ht (by decide) | (refine W_skip ?_)))))) <;> (refine blockQ_nrm ?_)) <;> ((refine thenQ_nrm ?_; (refine W_rgn ?_; ((refine Ra rfl (X_mv rfl ?_)) <;> (refine Ra rfl (X_addI rfl rfl (by omega) (by omega) ?_)) <;> (refine Ra rfl (X_mv rfl ?_)) <;> (refine R_nil ?_))))))))) <;> (first | refine thenQ_ext ?_ | (refine thenQ_nrm ?_; (
        exact Upd.done ⟨i + 1, by omega, by omega, (by repeat' (first | exact trivial | exact rfl | constructor)), Has.nil⟩)))) <;> (refine blockQ_ext ?_))))) <;> ((refine thenQ_nrm ?_; (refine W_seq ?_; (refine W_rgn ?_; ((refine Ra rfl (X_mv rfl ?_)) <;> (refine R_nil ?_))) <;> ((refine thenQ_nrm ?_; (refine W_ret ?_)))))))))))))
  <;> (refine fnP_ret (Res.tmp rfl Res.nil) ?_)
  all_goals first | rfl | (exfalso; omega)
set_option maxHeartbeats 4000000 in
theorem Events_ok (lo : Nat) {w : Int} {vv vst : Value} {vs : List Vr} {l : List Int} (hH : headP w vs) (hs2 : storeP w vs l) (hll : l.length < 9223372036854775808) : ∀ (t : Et) {Z : Vw} (_ : Tr Z t) (_ : Vrs Z vv vs) (_ : Fz Z 1 vst (l.map cI)) (_ : formE w vs 1 t.er) (_ : t.er.size ≤ 1000000), CallP F lo 22 [.int .i64 w, vv, vst, .agg ⟨t.cs⟩] Z fun r Z' => Fz Z' 3 r ((evsE w vs [l] t.er).map cE) := by
  intro t
  induction t using Et.ind with
  | h op n c v ks ih =>
  intro Z ht hv hst hfm hs
  rw [Tr_mk] at ht
  obtain ⟨⟨hf, hlen⟩, hk⟩ := ht
  have hEl : (ks.map Et.er).length = ks.length := List.length_map _
  rw [formT_mk] at hfm
  obtain ⟨hnd, hfk⟩ := hfm
  have hn1 := (nodeP_arity hnd).2.2.1
  rw [sizeT_mk] at hs
  have hss : stsP w vs [l] := fun j hj => by
    obtain rfl : j = 0 := by simp at hj; omega
    exact hs2
  have hce : op = 1 → 1 ≤ (vs.getD n.toNat default).cs ∧ (vs.getD n.toNat default).cs ≤ 8 := fun h => by
    obtain ⟨e1, e2, e3, e4, e5⟩ := hn1 h
    have q := cell_in hH (i := 0) e2 e3
    omega
  simp only [Et.cs]
  refine FnP (fn := c22) rfl rfl rfl ?_
  (refine W_seq ?_; (refine W_rgn ?_; ((refine Ra rfl (xBox rfl (fun b7 => ?_))) <;> (refine Ra rfl (X_mv rfl ?_)) <;> (refine R_nil ?_))) <;> ((refine thenQ_nrm ?_; (refine W_seq ?_; (refine W_rgn ?_; ((refine Ra rfl (X_mv rfl ?_)) <;> (refine R_nil ?_))) <;> ((refine thenQ_nrm ?_; (refine W_seq ?_; (refine W_seq ?_; (refine W_rgn ?_; ((refine Ra rfl (X_mv rfl ?_)) <;> (refine R_nil ?_))) <;> ((refine thenQ_nrm ?_; (refine W_block ?_; ((
      refine wLoop (fun (p : Nat × Value) => match p with | (i, vl) => [(10, .int .i64 (i : Nat)), (9, vl)]) (fun p => match p with | (i, vl) => [.box b7 [.int .i64 op, .int .i64 n, .int .i64 c, v], .gro vl 3 ((evsL w vs [l] ((ks.map Et.er).take i)).map cE)]) (fun p _ => match p with | (i, _) => i ≤ ks.length) (fun p => match p with | (i, _) => ks.length - i) (0, .slice none 0 0) (by repeat' (first | exact trivial | exact rfl | constructor)) (Upd.gro0 (e := 3) (by decide) (Upd.done ⟨Nat.zero_le _, hB rfl (hG (by rw [List.take_zero, evsL]; rfl) Has.nil)⟩)) ?_
      rintro ⟨i, vl⟩ Z1 hz1 hi
      have hi : i ≤ ks.length := hi
      have hsk : i < ks.length → (ks.getD i default).er.size ≤ 1000000 := fun h => (by have := sizeT_get h; omega)
      have hb1 := evsL_len (w := w) (vs := vs) (sts := [l]) ((ks.map Et.er).take i)
      have hb2 := Ex.sizeL_le (ks := ks.map Et.er) (i := i)
      have hb3 := evsE_len (w := w) (vs := vs) (sts := [l]) (ks.getD i default).er) <;> (refine W_seq ?_; (refine W_seq ?_; (refine W_rgn ?_; ((refine Ra rfl (X_mv rfl ?_)) <;> (refine Ra rfl (X_faddr rfl ?_)) <;> (refine Ra rfl (X_load (lB rfl rfl) ?_)) <;> (refine Ra rfl (xLen rfl ?_)) <;> (refine Ra rfl (X_lss rfl rfl (fun _ => ?_) (fun _ => ?_))) <;> (refine R_nil ?_))) <;> ((refine thenQ_nrm ?_; (refine W_cond rfl (fun ht => ?_) (fun ht => ?_) <;> (first | exact absurd ht (by decide) | (refine W_skip ?_) | (refine W_exit ?_)))))) <;> (first | refine thenQ_ext ?_ | (refine thenQ_nrm ?_; (refine W_seq ?_; (refine W_block ?_; (refine W_rgn ?_; ((refine Ra rfl (X_mv rfl ?_)) <;> (refine Ra rfl (X_mv rfl ?_)) <;> (refine Ra rfl (X_mv rfl ?_)) <;> (refine Ra rfl (X_mv rfl ?_)) <;> (refine Ra rfl (X_faddr rfl ?_)) <;> (refine Ra rfl (X_load (lB rfl rfl) ?_)) <;> (refine Ra rfl (X_mv rfl ?_)) <;> (refine Ra rfl (xIa rfl rfl (by omega) (by omega) ?_)) <;> (refine Ra rfl (X_load (lEA rfl (by omega)) ?_)) <;> (refine Ra rfl (xP (ih _ (getD_in (by omega)) (Tr.le ZC.le (hk _ (getD_in (by omega)))) (Fz.le hv ZC.le) (Fz.le hst ZC.le) (hfk i (by omega)) (hsk (by omega))) rfl (fun v28 Z28 hz28 hf28 => ?_))) <;> (refine Ra rfl (xApG rfl rfl (by rw [List.length_map, List.length_map]; omega) (fun v29 => ?_))) <;> (refine Ra rfl (X_mv rfl ?_)) <;> (refine R_nil ?_))) <;> (refine blockQ_nrm ?_)) <;> ((refine thenQ_nrm ?_; (refine W_rgn ?_; ((refine Ra rfl (X_mv rfl ?_)) <;> (refine Ra rfl (X_addI rfl rfl (by omega) (by omega) ?_)) <;> (refine Ra rfl (X_mv rfl ?_)) <;> (refine R_nil ?_))))))))) <;> (first | refine thenQ_ext ?_ | (refine thenQ_nrm ?_; (
        refine Upd.done ⟨(i + 1, v29), ?_, ?_, (by repeat' (first | exact trivial | exact rfl | constructor)), hB rfl (hG ?_ Has.nil)⟩
        · show ks.length - (i + 1) < ks.length - i
          omega
        · show i + 1 ≤ ks.length
          omega
        · rw [evsT_take (by omega), List.map_append])))) <;> (refine blockQ_ext ?_))))) <;> ((refine thenQ_nrm ?_; (refine W_seq ?_; (refine W_seq ?_; (refine W_rgn ?_; ((refine Ra rfl (X_faddr rfl ?_)) <;> (refine Ra rfl (X_load (lB rfl rfl) ?_)) <;> (refine Ra rfl (X_eql rfl rfl (fun _ => ?_) (fun _ => ?_))) <;> (refine Ra rfl (X_mv rfl ?_)) <;> (first | (refine Rb rfl rfl (X_faddr rfl ?_)) | (refine Rc rfl rfl ?_)) <;> (first | (refine Rb rfl rfl (X_load (lB rfl rfl) ?_)) | (refine Rc rfl rfl ?_)) <;> (first | (refine Rb rfl rfl (xLen rfl ?_)) | (refine Rc rfl rfl ?_)) <;> (first | (refine Rb rfl rfl (X_gtr rfl rfl (fun _ => ?_) (fun _ => ?_))) | (refine Rc rfl rfl ?_)) <;> (first | (refine Ra rfl (X_pickT rfl rfl ?_)) | (refine Ra rfl (X_pickF rfl rfl ?_))) <;> (refine R_nil ?_))) <;> ((refine thenQ_nrm ?_; (refine W_cond rfl (fun ht => ?_) (fun ht => ?_) <;> (first | exact absurd ht (by decide) | (refine W_seq ?_; (refine W_rgn ?_; ((refine Ra rfl (X_mv rfl ?_)) <;> (refine Ra rfl (X_mv rfl ?_)) <;> (refine Ra rfl (X_mv rfl ?_)) <;> (refine Ra rfl (X_bsliceC (pCons rfl Parts.nil) rfl rfl rfl (fun v42 => ?_))) <;> (refine Ra rfl (X_faddr rfl ?_)) <;> (refine Ra rfl (X_load (lB rfl rfl) ?_)) <;> (refine Ra rfl (xIa rfl rfl (by omega) (by omega) ?_)) <;> (refine Ra rfl (X_load (lEA rfl (by omega)) ?_)) <;> (refine Ra rfl (X_upd ?_); (refine uA v42 fun Zg hzg hfg => ?_; refine Upd.done ?_; refine xP (RValue_ok lo (rs := row vst l) hH (row_sto hs2) (by simp) (ks.getD 0 default) (Tr.le ZC.le (hk _ (getD_in (by omega)))) (Fz.le hv ZC.le) hfg (row_ok (Fz.le hst ZC.le) hll) (hfk 0 (by omega))) rfl (fun r47 Z47 hz47 hq => ?_); have hq : r47 = .int .i64 (valE w vs [l] (ks.getD 0 default).er) := hq; subst hq; have hvw := valT_wrd hH hss (hfk 0 (by omega)); unfold wrdP at hvw)) <;> (refine Ra rfl (X_mv rfl ?_)) <;> (refine R_nil ?_))) <;> ((refine thenQ_nrm ?_; (refine W_drw ?_; ((refine Da rfl rfl (X_mv rfl ?_)) <;> (refine Da rfl rfl (X_faddr rfl ?_)) <;> (refine Da rfl rfl (X_load (lB rfl rfl) ?_)) <;> (refine Da rfl rfl (X_mv rfl ?_)) <;> (refine Da rfl rfl (X_mv rfl ?_)) <;> (refine Da rfl rfl (X_faddr rfl ?_)) <;> (refine Da rfl rfl (X_load (lB rfl rfl) ?_)) <;> (refine Da rfl rfl (xIa rfl rfl (by omega) (by omega) ?_)) <;> (refine Da rfl rfl (X_faddr rfl ?_)) <;> (refine Da rfl rfl (X_load (lE rfl (by omega) rfl) ?_)) <;> (refine Da rfl rfl (X_remI rfl rfl (by omega) (by omega) ?_)) <;> (refine Da rfl rfl (X_buildC (pCons rfl (pCons rfl (pCons rfl Parts.nil))) rfl ?_)) <;> (refine Da rfl rfl (X_bsliceC (pCons rfl Parts.nil) rfl rfl rfl (fun v60 => ?_))) <;> (refine Da rfl rfl (xApGm (fe := cE) (n, valE w vs [l] (ks.getD 0 default).er % (vs.getD n.toNat default).cs) rfl rfl rfl (by omega) (fun v61 => ?_))) <;> (refine Da rfl rfl (X_mv rfl ?_)) <;> (refine D_nil ?_)))))) | (refine W_skip ?_)))))) <;> ((refine thenQ_nrm ?_; (refine W_seq ?_; (refine W_rgn ?_; ((refine Ra rfl (X_mv rfl ?_)) <;> (refine Ra rfl (X_mv rfl ?_)) <;> (refine R_nil ?_))) <;> ((refine thenQ_nrm ?_; (refine W_ret ?_))))))))))))))))
  <;> (refine fn_ret (Res.tmp rfl Res.nil) ?_)
  all_goals
    have hi2 : i = ks.length := by omega
    subst hi2
    dsimp only [tupled]
    first
      | (refine uG v61 fun Za hza hfa => Upd.nil ⟨rfl, ?_⟩
         rw [evsT_mk, if_pos ⟨by assumption, by omega⟩]
         rw [evsT_all] at hfa
         exact hfa)
      | (refine uG vl fun Za hza hfa => Upd.nil ⟨rfl, ?_⟩
         rw [evsT_mk, if_neg (by omega), List.append_nil]
         rw [evsT_all] at hfa
         exact hfa)
end Go.Proofs.Ytlidnionbofkaaa.Hm.V
