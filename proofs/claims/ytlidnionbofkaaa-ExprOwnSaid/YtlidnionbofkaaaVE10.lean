/- Values, plainly. -/
import Derived.Test.YtlidnionbofkaaaHF
import Derived.Test.YtlidnionbofkaaaA6
import Derived.Test.YtlidnionbofkaaaVE9
namespace Go.Proofs.Ytlidnionbofkaaa.Hm.V
open Go
set_option linter.all false
set_option maxRecDepth 100000
attribute [local irreducible] X S R D W Call Upd Rds Rck Sees Res Cel CallP fnQ
def stsP (w : Int) (vs : List Vr) (sts : List (List Int)) : Prop := ∀ i, i < sts.length → storeP w vs (sts.getD i default)
/-- The cell that a read reads. -/
theorem cell_in {w : Int} {vs : List Vr} (hH : headP w vs) {n i : Int} (h0 : 0 ≤ n) (h1 : n < vs.length) : 0 ≤ firstV vs n.toNat + i % (vs.getD n.toNat default).cs ∧ firstV vs n.toNat + i % (vs.getD n.toNat default).cs < firstV vs vs.length ∧ 1 ≤ (vs.getD n.toNat default).cs ∧ (vs.getD n.toNat default).cs ≤ 8 ∧ 0 ≤ firstV vs n.toNat ∧ firstV vs vs.length ≤ 48 ∧ 0 ≤ i % (vs.getD n.toNat default).cs ∧ i % (vs.getD n.toNat default).cs < (vs.getD n.toNat default).cs := by
  obtain ⟨_, h2, h3, h4, h5⟩ := hH
  have hn : n.toNat < vs.length := by omega
  obtain ⟨_, _, _, q1, q2, _⟩ := h4 n.toNat hn
  have h6 := firstV_mono h4 hn
  have h7 := firstV_le (v := n.toNat) (fun i _ hi => h4 i hi) (by omega)
  have h8 := Int.emod_nonneg i (b := (vs.getD n.toNat default).cs) (by omega)
  have h9 := Int.emod_lt_of_pos i (b := (vs.getD n.toNat default).cs) (by omega)
  exact ⟨by omega, by omega, q1, q2, h7.1, h5, h8, h9⟩
theorem store_wrd {w : Int} {vs : List Vr} {st : List Int} (h : storeP w vs st) {i : Int} (h0 : 0 ≤ i) (h1 : i < firstV vs vs.length) : wrdP w (st.getD i.toNat default) ∧ i.toNat < st.length := by
  obtain ⟨h2, h3⟩ := h
  have : i.toNat < st.length := by omega
  exact ⟨h3 _ this, this⟩
theorem wrd_zero {w : Int} (hw : widP w) : wrdP w 0 := by have := pow_w hw.1 hw.2; unfold wrdP; omega
theorem valE_wrd {w : Int} {vs : List Vr} {sts : List (List Int)} (hH : headP w vs) (hs : stsP w vs sts) : ∀ e, formE w vs sts.length e → wrdP w (valE w vs sts e) := by
  intro e
  induction e using Ex.ind with
  | h op n c ks ih =>
    rw [formE_mk, valE_mk]
    rintro ⟨hn, hk⟩
    have hw := hH.1
    have hpw := pow_w hw.1 hw.2
    have hg : ∀ j, j < ks.length → wrdP w ((ks.map (valE w vs sts)).getD j default) := fun j hj => by
      rw [map_get hj]; exact ih _ (getD_in hj) (hk j hj)
    unfold nodeV
    by_cases h0 : op = 0
    · rw [if_pos h0]; exact ((nodeP_0 h0).1 hn).2.2.2
    rw [if_neg h0]
    by_cases h1 : op = 1
    · rw [if_pos h1]
      obtain ⟨e1, e2, e3, e4, e5⟩ := (nodeP_1 h1).1 hn
      have hst := hs c.toNat (by omega)
      rw [List.length_map]
      have key : ∀ i : Int, wrdP w ((sts.getD c.toNat default).getD (firstV vs n.toNat + i % (vs.getD n.toNat default).cs).toNat default) := fun i => by
        have q := cell_in hH (i := i) e1 e2
        exact (store_wrd hst q.1 q.2.1).1
      split
      · have := key 0; rwa [Int.zero_emod] at this
      · exact key _
    rw [if_neg h1]
    by_cases h2 : op = 12
    · rw [if_pos h2]
      obtain ⟨e1, e2, e3⟩ := (nodeP_12 h2).1 hn
      have := hg 0 (by omega)
      unfold wrdP at this ⊢
      omega
    rw [if_neg h2]
    by_cases h3 : op = 15
    · rw [if_pos h3]
      obtain ⟨e1, e2, e3⟩ := (nodeP_15 h3).1 hn
      split
      · exact hg 2 (by omega)
      · exact hg 1 (by omega)
    rw [if_neg h3]
    by_cases h4 : IsOp op
    · obtain ⟨e1, e2, e3⟩ := (nodeP_2 h4).1 hn
      exact doW_wrd hw (hg 0 (by omega)) (hg 1 (by omega))
    · exact ((nodeP_no h4 h1 h0 h2 h3).1 hn).elim
theorem valT_wrd {w : Int} {vs : List Vr} {sts : List (List Int)} (hH : headP w vs) (hs : stsP w vs sts) {t : Et} (h : formE w vs sts.length t.er) : wrdP w (valE w vs sts t.er) := valE_wrd hH hs _ h
theorem valT_mk {w : Int} {vs : List Vr} {sts : List (List Int)} {op n c : Int} {v : Value} {ks : List Et} : valE w vs sts (Et.mk op n c v ks).er = nodeV w vs sts op n c (ks.map fun a => valE w vs sts a.er) := by
  rw [Et.er_mk, valE_mk, List.map_map]; rfl
theorem valT_get {w : Int} {vs : List Vr} {sts : List (List Int)} {ks : List Et} {i : Nat} (h : i < ks.length) : (ks.map fun a => valE w vs sts a.er).getD i default = valE w vs sts (ks.getD i default).er := map_get h
theorem nodeP_arity {w : Int} {vs : List Vr} {k op n c : Int} {m : Nat} (h : nodeP w vs k op n c m) : m ≤ 3 ∧ (op = 0 → m = 0) ∧ (op = 1 → m ≤ 1 ∧ 0 ≤ n ∧ n < vs.length ∧ 0 ≤ c ∧ c < k) ∧ (op = 12 → m = 1) ∧ (op = 15 → m = 3) ∧ (op ≠ 0 → op ≠ 1 → op ≠ 12 → op ≠ 15 → m = 2 ∧ IsOp op) := by
  by_cases h0 : op = 0
  · have := (nodeP_0 h0).1 h; exact ⟨by omega, fun _ => by omega, fun _ => by omega, fun _ => by omega, fun _ => by omega, fun h => absurd h0 h⟩
  by_cases h1 : op = 1
  · obtain ⟨e1, e2, e3, e4, e5⟩ := (nodeP_1 h1).1 h
    have : m ≤ 1 := by split at e5 <;> omega
    exact ⟨by omega, fun _ => by omega, fun _ => ⟨this, e1, e2, e3, e4⟩, fun _ => by omega, fun _ => by omega, fun _ h => absurd h1 h⟩
  by_cases h2 : op = 12
  · have := (nodeP_12 h2).1 h; exact ⟨by omega, fun _ => by omega, fun _ => by omega, fun _ => by omega, fun _ => by omega, fun _ _ h => absurd h2 h⟩
  by_cases h3 : op = 15
  · have := (nodeP_15 h3).1 h; exact ⟨by omega, fun _ => by omega, fun _ => by omega, fun _ => by omega, fun _ => by omega, fun _ _ _ h => absurd h3 h⟩
  by_cases h4 : IsOp op
  · have := (nodeP_2 h4).1 h; exact ⟨by omega, fun _ => by omega, fun _ => by omega, fun _ => by omega, fun _ => by omega, fun _ _ _ _ => ⟨by omega, h4⟩⟩
  · exact ((nodeP_no h4 h1 h0 h2 h3).1 h).elim
set_option maxHeartbeats 4000000 in
theorem At_ok (lo : Nat) {Z : Vw} {w : Int} {vv : Value} {vs : List Vr} {n i : Int} (hv : Vrs Z vv vs) (hH : headP w vs) (h0 : 0 ≤ n) (h1 : n < vs.length) (h2 : 0 ≤ i) (h3 : i < 1000000) : CallP F lo 49 [vv, .int .i64 n, .int .i64 i] Z fun r _ => r = .int .i64 (firstV vs n.toNat + i % (vs.getD n.toNat default).cs) := by
  have q := cell_in hH (i := i) h0 h1
  obtain ⟨q1, q2, q3, q4, q5, q6, q7, q8⟩ := q
  have hl1 := hH.2.1
  have hl2 := hH.2.2.1
  refine FnP (fn := c49) rfl rfl rfl ?_
  (refine W_seq ?_; (refine W_rgn ?_; ((refine Ra rfl (X_mv rfl ?_)) <;> (refine R_nil ?_))) <;> ((refine thenQ_nrm ?_; (refine W_seq ?_; (refine W_drw ?_; ((refine Da rfl rfl (X_mv rfl ?_)) <;> (refine Da rfl rfl (X_mv rfl ?_)) <;> (refine Da rfl rfl (X_mv rfl ?_)) <;> (refine Da rfl rfl (X_mv rfl ?_)) <;> (refine Da rfl rfl (X_mv rfl ?_)) <;> (refine Da rfl rfl (xIa rfl rfl (by omega) (by omega) ?_)) <;> (refine Da rfl rfl (X_faddr rfl ?_)) <;> (refine Da rfl rfl (X_load (lE rfl (by omega) rfl) ?_)) <;> (refine Da rfl rfl (X_remI rfl rfl (by omega) (by omega) ?_)) <;> (refine D_consR rfl (S_do rfl (xP (First_ok lo (vs := vs) _ (by omega) (by omega) (by omega) hH.2.2.2.1) rfl (fun _ Z9 hz9 hq => ⟨(by (refine rDo rfl rfl (lE rfl (by omega) rfl) ?_); exact Rck_nil), ?_⟩))); (subst hq)) <;> (refine Da rfl rfl (X_addI rfl rfl (by omega) (by omega) ?_)) <;> (refine Da rfl rfl (X_mv rfl ?_)) <;> (refine D_nil ?_))) <;> ((refine thenQ_nrm ?_; (refine W_ret ?_)))))))
  <;> (refine fnP_ret (Res.tmp rfl Res.nil) ?_)
  all_goals rfl
def cv (l : List Int) (i j : Nat) : Int := if j < i then l.getD j default else 0
set_option maxHeartbeats 4000000 in
theorem RValue_ok (lo : Nat) {w : Int} {vv vst : Value} {vs : List Vr} {rs : List Rw} (hH : headP w vs) (hst2 : ∀ i, i < rs.length → storeP w vs (rs.getD i default).l) (hrl : rs.length < 9223372036854775808) : ∀ (t : Et) {Z : Vw} (_ : Tr Z t) (_ : Vrs Z vv vs) (_ : Fz Z 1 vst (rs.map Rw.c)) (_ : RwOK Z rs) (_ : formE w vs rs.length t.er), CallP F lo 19 [.int .i64 w, vv, vst, .agg ⟨t.cs⟩] Z fun r _ => r = .int .i64 (valE w vs (rwL rs) t.er) := by
  intro t
  induction t using Et.ind with
  | h op n c v ks ih =>
  intro Z ht hv hsv hrk hfm
  rw [Tr_mk] at ht
  obtain ⟨⟨hf, hlen⟩, hk⟩ := ht
  have hEl : (ks.map Et.er).length = ks.length := List.length_map _
  rw [formT_mk] at hfm
  obtain ⟨hnd, hfk⟩ := hfm
  have hna := nodeP_arity hnd
  have hw := hH.1
  have hpw := pow_w hw.1 hw.2
  have hss : stsP w vs (rwL rs) := fun i hi => by
    have hi2 : i < rs.length := by simpa [rwL] using hi
    rw [rwL_get hi2]; exact hst2 i hi2
  have hwk : ∀ j, j < ks.length → wrdP w (valE w vs (rwL rs) (ks.getD j default).er) := fun j hj => valT_wrd hH hss (by have := hfk j hj; rwa [show ((rwL rs).length : Int) = rs.length by simp [rwL]])
  have hwb : ∀ j, j < ks.length → 0 ≤ valE w vs (rwL rs) (ks.getD j default).er ∧ valE w vs (rwL rs) (ks.getD j default).er < 256 := fun j hj => by
    have := hwk j hj
    unfold wrdP at this
    omega
  have hw0 := hwb 0
  have hw1 := hwb 1
  have hw2 := hwb 2
  have hci : op = 1 → ∀ i : Int, 0 ≤ firstV vs n.toNat + i % (vs.getD n.toNat default).cs ∧ (firstV vs n.toNat + i % (vs.getD n.toNat default).cs).toNat < (rs.getD c.toNat default).l.length := fun h i => by
    obtain ⟨e1, e2, e3, e4, e5⟩ := hna.2.2.1 h
    have q := cell_in hH (i := i) e2 e3
    exact ⟨q.1, (store_wrd (hst2 c.toNat (by omega)) q.1 q.2.1).2⟩
  simp only [Et.cs]
  refine FnP (fn := c19) rfl rfl rfl ?_
  (refine W_seq ?_; (refine W_rgn ?_; ((refine Ra rfl (xBox rfl (fun b7 => ?_))) <;> (refine Ra rfl (X_mv rfl ?_)) <;> (refine R_nil ?_))) <;> ((refine thenQ_nrm ?_; (refine W_seq ?_; (refine W_seq ?_; (refine W_rgn ?_; ((refine Ra rfl (X_faddr rfl ?_)) <;> (refine Ra rfl (X_load (lB rfl rfl) ?_)) <;> (refine R_nil ?_))) <;> ((refine thenQ_nrm ?_; (refine W_block ?_; (refine W_seq ?_; (refine W_rgn ?_; ((refine Ra rfl (X_eql rfl rfl (fun _ => ?_) (fun _ => ?_))) <;> (refine Ra rfl (X_mv rfl ?_)) <;> (refine R_nil ?_))) <;> ((refine thenQ_nrm ?_; (refine W_cond rfl (fun ht => ?_) (fun ht => ?_) <;> (first | exact absurd ht (by decide) | (refine W_seq ?_; (refine W_rgn ?_; ((refine Ra rfl (X_faddr rfl ?_)) <;> (refine Ra rfl (X_load (lB rfl rfl) ?_)) <;> (refine Ra rfl (X_mv rfl ?_)) <;> (refine R_nil ?_))) <;> ((refine thenQ_nrm ?_; (refine W_ret ?_)))) | (refine W_seq ?_; (refine W_rgn ?_; ((refine Ra rfl (X_eql rfl rfl (fun _ => ?_) (fun _ => ?_))) <;> (refine Ra rfl (X_mv rfl ?_)) <;> (refine R_nil ?_))) <;> ((refine thenQ_nrm ?_; (refine W_cond rfl (fun ht => ?_) (fun ht => ?_) <;> (first | exact absurd ht (by decide) | (refine W_seq ?_; (refine W_rgn ?_; ((refine Ra rfl (X_mv rfl ?_)) <;> (refine R_nil ?_))) <;> ((refine thenQ_nrm ?_; (refine W_seq ?_; (refine W_seq ?_; (refine W_rgn ?_; ((refine Ra rfl (X_faddr rfl ?_)) <;> (refine Ra rfl (X_load (lB rfl rfl) ?_)) <;> (refine Ra rfl (xLen rfl ?_)) <;> (refine Ra rfl (X_gtr rfl rfl (fun _ => ?_) (fun _ => ?_))) <;> (refine R_nil ?_))) <;> ((refine thenQ_nrm ?_; (refine W_cond rfl (fun ht => ?_) (fun ht => ?_) <;> (first | exact absurd ht (by decide) | (refine W_rgn ?_; ((refine Ra rfl (X_mv rfl ?_)) <;> (refine Ra rfl (X_mv rfl ?_)) <;> (refine Ra rfl (X_mv rfl ?_)) <;> (refine Ra rfl (X_faddr rfl ?_)) <;> (refine Ra rfl (X_load (lB rfl rfl) ?_)) <;> (refine Ra rfl (xIa rfl rfl (by omega) (by omega) ?_)) <;> (refine Ra rfl (X_load (lEA rfl (by omega)) ?_)) <;> (refine Ra rfl (xP (ih (ks.getD 0 default) (getD_in (by omega)) (Tr.le ZC.le (hk _ (getD_in (by omega)))) (Fz.le hv ZC.le) (Fz.le hsv ZC.le) (hrk.le ZC.le) (hfk 0 (by omega))) rfl (fun _ Z31 hz31 hq => ?_)); (subst hq)) <;> (refine Ra rfl (X_mv rfl ?_)) <;> (refine R_nil ?_))) | (refine W_skip ?_)))))) <;> ((refine thenQ_nrm ?_; (refine W_seq ?_; (refine W_drw ?_; ((refine Da rfl rfl (X_mv rfl ?_)) <;> (refine Da rfl rfl (X_faddr rfl ?_)) <;> (refine Da rfl rfl (X_load (lB rfl rfl) ?_)) <;> (refine Da rfl rfl (xIa rfl rfl (by omega) (by omega) ?_)) <;> (refine Da rfl rfl (X_load (lE0 rfl (by omega) rfl) ?_); (have hfc := (hrk c.toNat (by omega)).1)) <;> (refine Da rfl rfl (X_mv rfl ?_)) <;> (refine Da rfl rfl (X_faddr rfl ?_)) <;> (refine Da rfl rfl (X_load (lB rfl rfl) ?_)) <;> (refine Da rfl rfl (X_mv rfl ?_)) <;> (refine D_consR rfl (S_do rfl (xP (At_ok lo (Fz.le hv ZC.le) hH (by omega) (by omega) (by omega) (by omega)) rfl (fun _ Z41 hz41 hq => ⟨(by (refine rDo rfl rfl (lB rfl rfl) ?_); (refine rDo rfl rfl (lE0 rfl (by omega) rfl) ?_); exact Rck_nil), ?_⟩))); (subst hq)) <;> (refine Da rfl rfl (xIa rfl rfl (hci (by assumption) _).1 (hci (by assumption) _).2 ?_)) <;> (refine Da rfl rfl (X_load (lE0 rfl (hci (by assumption) _).2 rfl) ?_)) <;> (refine Da rfl rfl (X_mv rfl ?_)) <;> (refine D_nil ?_))) <;> ((refine thenQ_nrm ?_; (refine W_ret ?_)))))))))) | (refine W_seq ?_; (refine W_rgn ?_; ((refine Ra rfl (X_eql rfl rfl (fun _ => ?_) (fun _ => ?_))) <;> (refine Ra rfl (X_mv rfl ?_)) <;> (refine R_nil ?_))) <;> ((refine thenQ_nrm ?_; (refine W_cond rfl (fun ht => ?_) (fun ht => ?_) <;> (first | exact absurd ht (by decide) | (refine W_seq ?_; (refine W_rgn ?_; ((refine Ra rfl (X_mv rfl ?_)) <;> (refine Ra rfl (X_mv rfl ?_)) <;> (refine Ra rfl (X_mv rfl ?_)) <;> (refine Ra rfl (X_mv rfl ?_)) <;> (refine Ra rfl (X_faddr rfl ?_)) <;> (refine Ra rfl (X_load (lB rfl rfl) ?_)) <;> (refine Ra rfl (xIa rfl rfl (by omega) (by omega) ?_)) <;> (refine Ra rfl (X_load (lEA rfl (by omega)) ?_)) <;> (refine Ra rfl (xP (ih (ks.getD 0 default) (getD_in (by omega)) (Tr.le ZC.le (hk _ (getD_in (by omega)))) (Fz.le hv ZC.le) (Fz.le hsv ZC.le) (hrk.le ZC.le) (hfk 0 (by omega))) rfl (fun _ Z54 hz54 hq => ?_)); (subst hq)) <;> (refine Ra rfl (xP (RNot_ok lo _ _ hw (hwk 0 (by omega))) rfl (fun _ Z55 hz55 hq => ?_)); (subst hq)) <;> (refine Ra rfl (X_mv rfl ?_)) <;> (refine R_nil ?_))) <;> ((refine thenQ_nrm ?_; (refine W_ret ?_)))) | (refine W_skip ?_)))))))))))))))) <;> (first | refine blockQ_nrm ?_ | refine blockQ_ret ?_))))) <;> (first | refine thenQ_ret ?_ | (refine thenQ_nrm ?_; (refine W_seq ?_; (refine W_rgn ?_; ((refine Ra rfl (X_mv rfl ?_)) <;> (refine Ra rfl (X_mv rfl ?_)) <;> (refine Ra rfl (X_mv rfl ?_)) <;> (refine Ra rfl (X_faddr rfl ?_)) <;> (refine Ra rfl (X_load (lB rfl rfl) ?_)) <;> (refine Ra rfl (xIa rfl rfl (by omega) (by omega) ?_)) <;> (refine Ra rfl (X_load (lEA rfl (by omega)) ?_)) <;> (refine Ra rfl (xP (ih (ks.getD 0 default) (getD_in (by omega)) (Tr.le ZC.le (hk _ (getD_in (by omega)))) (Fz.le hv ZC.le) (Fz.le hsv ZC.le) (hrk.le ZC.le) (hfk 0 (by omega))) rfl (fun _ Z63 hz63 hq => ?_)); (subst hq)) <;> (refine Ra rfl (X_mv rfl ?_)) <;> (refine R_nil ?_))) <;> ((refine thenQ_nrm ?_; (refine W_seq ?_; (refine W_rgn ?_; ((refine Ra rfl (X_mv rfl ?_)) <;> (refine Ra rfl (X_mv rfl ?_)) <;> (refine Ra rfl (X_mv rfl ?_)) <;> (refine Ra rfl (X_faddr rfl ?_)) <;> (refine Ra rfl (X_load (lB rfl rfl) ?_)) <;> (refine Ra rfl (xIa rfl rfl (by omega) (by omega) ?_)) <;> (refine Ra rfl (X_load (lEA rfl (by omega)) ?_)) <;> (refine Ra rfl (xP (ih (ks.getD 1 default) (getD_in (by omega)) (Tr.le ZC.le (hk _ (getD_in (by omega)))) (Fz.le hv ZC.le) (Fz.le hsv ZC.le) (hrk.le ZC.le) (hfk 1 (by omega))) rfl (fun _ Z71 hz71 hq => ?_)); (subst hq)) <;> (refine Ra rfl (X_mv rfl ?_)) <;> (refine R_nil ?_))) <;> ((refine thenQ_nrm ?_; (refine W_seq ?_; (refine W_seq ?_; (refine W_rgn ?_; ((refine Ra rfl (X_faddr rfl ?_)) <;> (refine Ra rfl (X_load (lB rfl rfl) ?_)) <;> (refine Ra rfl (X_neq rfl rfl (fun _ => ?_) (fun _ => ?_))) <;> (refine R_nil ?_))) <;> ((refine thenQ_nrm ?_; (refine W_cond rfl (fun ht => ?_) (fun ht => ?_) <;> (first | exact absurd ht (by decide) | (refine W_seq ?_; (refine W_rgn ?_; ((refine Ra rfl (X_faddr rfl ?_)) <;> (refine Ra rfl (X_load (lB rfl rfl) ?_)) <;> (refine Ra rfl (X_mv rfl ?_)) <;> (refine Ra rfl (X_mv rfl ?_)) <;> (refine Ra rfl (X_mv rfl ?_)) <;> (refine Ra rfl (xP (RDo_ok lo _ _ _ _ (hna.2.2.2.2.2 (by omega) (by omega) (by omega) (by omega)).2 hw (hwk 0 (by omega)) (hwk 1 (by omega))) rfl (fun _ Z80 hz80 hq => ?_)); (subst hq)) <;> (refine Ra rfl (X_mv rfl ?_)) <;> (refine R_nil ?_))) <;> ((refine thenQ_nrm ?_; (refine W_ret ?_)))) | (refine W_skip ?_)))))) <;> (first | refine thenQ_ret ?_ | (refine thenQ_nrm ?_; (refine W_seq ?_; (refine W_seq ?_; (refine W_rgn ?_; ((refine Ra rfl (X_mv rfl ?_)) <;> (refine Ra rfl (X_neq rfl rfl (fun _ => ?_) (fun _ => ?_))) <;> (refine R_nil ?_))) <;> ((refine thenQ_nrm ?_; (refine W_cond rfl (fun ht => ?_) (fun ht => ?_) <;> (first | exact absurd ht (by decide) | (refine W_seq ?_; (refine W_rgn ?_; ((refine Ra rfl (X_mv rfl ?_)) <;> (refine Ra rfl (X_mv rfl ?_)) <;> (refine R_nil ?_))) <;> ((refine thenQ_nrm ?_; (refine W_ret ?_)))) | (refine W_skip ?_)))))) <;> (first | refine thenQ_ret ?_ | (refine thenQ_nrm ?_; (refine W_seq ?_; (refine W_rgn ?_; ((refine Ra rfl (X_mv rfl ?_)) <;> (refine Ra rfl (X_mv rfl ?_)) <;> (refine Ra rfl (X_mv rfl ?_)) <;> (refine Ra rfl (X_faddr rfl ?_)) <;> (refine Ra rfl (X_load (lB rfl rfl) ?_)) <;> (refine Ra rfl (xIa rfl rfl (by omega) (by omega) ?_)) <;> (refine Ra rfl (X_load (lEA rfl (by omega)) ?_)) <;> (refine Ra rfl (xP (ih (ks.getD 2 default) (getD_in (by omega)) (Tr.le ZC.le (hk _ (getD_in (by omega)))) (Fz.le hv ZC.le) (Fz.le hsv ZC.le) (hrk.le ZC.le) (hfk 2 (by omega))) rfl (fun _ Z91 hz91 hq => ?_)); (subst hq)) <;> (refine Ra rfl (X_mv rfl ?_)) <;> (refine R_nil ?_))) <;> ((refine thenQ_nrm ?_; (refine W_ret ?_))))))))))))))))))))))
  <;> (refine fnP_ret (Res.tmp rfl Res.nil) ?_)
  all_goals
    rw [valT_mk]
    unfold nodeV
    refine congrArg (Value.int .i64) ?_
    first
      | (rw [if_pos (show op = 0 by assumption)]; done)
      | (rw [if_neg (show ¬ op = 0 by omega), if_pos (show op = 1 by assumption), rwL_get (by omega), List.length_map]
         first
           | (rw [if_pos (by omega), Int.zero_emod]; done)
           | (rw [if_pos (by omega)]; done)
           | (rw [if_neg (by omega), valT_get (by omega)]; done)
           | skip)
      | (rw [if_neg (show ¬ op = 0 by omega), if_neg (show ¬ op = 1 by omega), if_pos (show op = 12 by assumption), valT_get (by omega)]; done)
      | (rw [if_neg (show ¬ op = 0 by omega), if_neg (show ¬ op = 1 by omega), if_neg (show ¬ op = 12 by omega), if_pos (show op = 15 by omega), valT_get (by omega)]
         first
           | (rw [if_neg (by assumption), valT_get (by omega)]; done)
           | (rw [if_pos (by assumption), valT_get (by omega)]; done)
           | (rw [cv_eq (by omega) (by omega)] at *; first
                | (rw [if_neg (by assumption), valT_get (by omega)]; done)
                | (rw [if_pos (by assumption), valT_get (by omega)]; done)))
      | (rw [if_neg (show ¬ op = 0 by omega), if_neg (show ¬ op = 1 by omega), if_neg (show ¬ op = 12 by omega), if_neg (show ¬ op = 15 by omega), valT_get (by omega), valT_get (by omega)]; done)
-- ref02.Value
end Go.Proofs.Ytlidnionbofkaaa.Hm.V
