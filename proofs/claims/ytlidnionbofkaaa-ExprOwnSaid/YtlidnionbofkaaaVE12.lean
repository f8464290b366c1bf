/- The program's eval. -/
import Derived.Test.YtlidnionbofkaaaHF
import Derived.Test.YtlidnionbofkaaaA6
import Derived.Test.YtlidnionbofkaaaVE11
namespace Go.Proofs.Ytlidnionbofkaaa.Hm.V
open Go
set_option linter.all false
set_option maxRecDepth 100000
attribute [local irreducible] X S R D W Call Upd Rds Rck Sees Res Cel CallP fnQ
theorem cvT {w : Int} {vs : List Vr} {sts : List (List Int)} {ks : List Et} {j : Nat} (h : j < ks.length) : cv (ks.map fun a => valE w vs sts a.er) ks.length j = valE w vs sts (ks.getD j default).er := by unfold cv; rw [if_pos h]; exact valT_get h
section
variable {w op n c : Int} {vs : List Vr} {rs : List Rw} {v : Value} {ks : List Et}
theorem V0 (h : op = 0) : n = valE w vs (rwL rs) (Et.mk op n c v ks).er := by
  rw [valT_mk]; unfold nodeV
  rw [if_pos h]
theorem V1 (h : op = 1) (hc : c.toNat < rs.length) (hl : ks.length = 0) : (rs.getD c.toNat default).l.getD (firstV vs n.toNat + 0).toNat default = valE w vs (rwL rs) (Et.mk op n c v ks).er := by
  rw [valT_mk]; unfold nodeV
  rw [if_neg (by omega), if_pos h, rwL_get hc, List.length_map, if_pos hl]
theorem V1a (h : op = 1) (hc : c.toNat < rs.length) (hl : 0 < ks.length) : (rs.getD c.toNat default).l.getD (firstV vs n.toNat + (cv (ks.map fun a => valE w vs (rwL rs) a.er) ks.length 0) % (vs.getD n.toNat default).cs).toNat default = valE w vs (rwL rs) (Et.mk op n c v ks).er := by
  rw [valT_mk]; unfold nodeV
  rw [if_neg (by omega), if_pos h, rwL_get hc, List.length_map, if_neg (by omega), cvT hl, valT_get hl]
theorem V12 (h : op = 12) (hl : 0 < ks.length) : 2 ^ w.toNat - 1 - (cv (ks.map fun a => valE w vs (rwL rs) a.er) ks.length 0) = valE w vs (rwL rs) (Et.mk op n c v ks).er := by
  rw [valT_mk]; unfold nodeV
  rw [if_neg (by omega), if_neg (by omega), if_pos h, cvT hl, valT_get hl]
theorem V15a (h : op = 15) (hl : ks.length = 3) (h0 : (cv (ks.map fun a => valE w vs (rwL rs) a.er) ks.length 0) = 0) : (cv (ks.map fun a => valE w vs (rwL rs) a.er) ks.length 2) = valE w vs (rwL rs) (Et.mk op n c v ks).er := by
  rw [valT_mk]; unfold nodeV
  rw [cvT (by omega)] at h0
  rw [if_neg (by omega), if_neg (by omega), if_neg (by omega), if_pos h, valT_get (by omega), if_pos h0, cvT (by omega), valT_get (by omega)]
theorem V15b (h : op = 15) (hl : ks.length = 3) (h0 : ¬ (cv (ks.map fun a => valE w vs (rwL rs) a.er) ks.length 0) = 0) : (cv (ks.map fun a => valE w vs (rwL rs) a.er) ks.length 1) = valE w vs (rwL rs) (Et.mk op n c v ks).er := by
  rw [valT_mk]; unfold nodeV
  rw [cvT (by omega)] at h0
  rw [if_neg (by omega), if_neg (by omega), if_neg (by omega), if_pos h, valT_get (by omega), if_neg h0, cvT (by omega), valT_get (by omega)]
theorem V2 (h0 : op ≠ 0) (h1 : op ≠ 1) (h2 : op ≠ 12) (h3 : op ≠ 15) (hl : ks.length = 2) : doW op w (cv (ks.map fun a => valE w vs (rwL rs) a.er) ks.length 0) (cv (ks.map fun a => valE w vs (rwL rs) a.er) ks.length 1) = valE w vs (rwL rs) (Et.mk op n c v ks).er := by
  rw [valT_mk]; unfold nodeV
  rw [if_neg h0, if_neg h1, if_neg h2, if_neg h3, cvT (by omega), cvT (by omega), valT_get (by omega), valT_get (by omega)]
end
theorem evsT_all {w : Int} {vs : List Vr} {sts : List (List Int)} {ks : List Et} : evsL w vs sts ((ks.map Et.er).take ks.length) = evsL w vs sts (ks.map Et.er) := by rw [List.take_of_length_le (by simp)]
set_option maxHeartbeats 4000000 in
theorem eval_ok (lo : Nat) {w : Int} {vv vst : Value} {vs : List Vr} {rs : List Rw} (hH : headP w vs) (hst2 : ∀ i, i < rs.length → storeP w vs (rs.getD i default).l) (hrl : rs.length < 9223372036854775808) {kk : Int} {fk : Nat} {caps : List Value} {S : Type} {L : S → List (Int × Int) → List Pt} {Z0 : Vw} (hsee : SeeOK F lo fk caps L Z0) : ∀ (t : Et) {Z : Vw} (_ : Tr Z t) (_ : Vrs Z vv vs) (_ : Fz Z 1 vst (rs.map Rw.c)) (_ : RwOK Z rs) (_ : formE w vs rs.length t.er) (_ : Z0.le Z) (s : S) (evs : List (Int × Int)) (_ : evs.length + t.er.size ≤ 100000), Call F lo 47 [.agg ⟨[.int .i64 w, vv, .int .i64 kk]⟩, vst, .agg ⟨t.cs⟩, .func (.func fk) ⟨[]⟩ ⟨caps⟩] Z (L s evs) fun r _ O' => r = .int .i64 (valE w vs (rwL rs) t.er) ∧ ∃ s', O' = L s' (evs ++ evsE w vs (rwL rs) t.er) := by
  intro t
  induction t using Et.ind with
  | h op n c v ks ih =>
  intro Z ht hv hsv hrk hfm hz0 s evs hsz
  rw [Tr_mk] at ht
  obtain ⟨⟨hf, hlen⟩, hk⟩ := ht
  have hEl : (ks.map Et.er).length = ks.length := List.length_map _
  rw [formT_mk] at hfm
  obtain ⟨hnd, hfk⟩ := hfm
  have hna := nodeP_arity hnd
  have hw := hH.1
  have hpw := pow_w hw.1 hw.2
  have hss : stsP w vs (rwL rs) := fun i hi => by
    have hi2 : i < rs.length := by simpa [rwL] using hi
    rw [rwL_get hi2]; exact hst2 i hi2
  have hwk : ∀ j, j < ks.length → wrdP w (valE w vs (rwL rs) (ks.getD j default).er) := fun j hj => valT_wrd hH hss (by have := hfk j hj; rwa [show ((rwL rs).length : Int) = rs.length by simp [rwL]])
  have hwb : ∀ j, j < ks.length → 0 ≤ valE w vs (rwL rs) (ks.getD j default).er ∧ valE w vs (rwL rs) (ks.getD j default).er < 256 := fun j hj => by
    have := hwk j hj
    unfold wrdP at this
    omega
  have hw0 := hwb 0
  have hw1 := hwb 1
  have hw2 := hwb 2
  have hci : op = 1 → ∀ i : Int, 0 ≤ firstV vs n.toNat + i % (vs.getD n.toNat default).cs ∧ (firstV vs n.toNat + i % (vs.getD n.toNat default).cs).toNat < (rs.getD c.toNat default).l.length := fun h i => by
    obtain ⟨e1, e2, e3, e4, e5⟩ := hna.2.2.1 h
    have q := cell_in hH (i := i) e2 e3
    exact ⟨q.1, (store_wrd (hst2 c.toNat (by omega)) q.1 q.2.1).2⟩
  have hcz : op = 1 → 0 ≤ firstV vs n.toNat + 0 ∧ (firstV vs n.toNat + 0).toNat < (rs.getD c.toNat default).l.length := fun h => (by have q := hci h 0; rwa [Int.zero_emod] at q)
  have hce : op = 1 → 1 ≤ (vs.getD n.toNat default).cs ∧ (vs.getD n.toNat default).cs ≤ 8 ∧ 0 ≤ firstV vs n.toNat ∧ firstV vs n.toNat ≤ 48 := fun h => by
    obtain ⟨e1, e2, e3, e4, e5⟩ := hna.2.2.1 h
    have q := cell_in hH (i := 0) e2 e3
    omega
  have hemd : ∀ x : Int, op = 1 → 0 ≤ x % (vs.getD n.toNat default).cs ∧ x % (vs.getD n.toNat default).cs < 8 := fun x h => by
    have q := hce h
    have q1 := Int.emod_nonneg x (b := (vs.getD n.toNat default).cs) (by omega)
    have q2 := Int.emod_lt_of_pos x (b := (vs.getD n.toNat default).cs) (by omega)
    omega
  rw [sizeT_mk] at hsz
  simp only [Et.cs]
  refine Fn (fn := c47) rfl rfl rfl ?_
  (refine W_seq ?_; (refine W_rgn ?_; ((refine Ra rfl (xBox rfl (fun b4 => ?_))) <;> (refine Ra rfl (xBox rfl (fun b6 => ?_))) <;> (refine Ra rfl (X_mv rfl ?_)) <;> (refine R_nil ?_))) <;> ((refine thenQ_nrm ?_; (refine W_seq ?_; (refine W_rgn ?_; ((refine Ra rfl (X_alloc (fun b9 => ?_))) <;> (refine R_nil ?_))) <;> ((refine thenQ_nrm ?_; (refine W_seq ?_; (refine W_seq ?_; (refine W_rgn ?_; ((refine Ra rfl (X_faddr rfl ?_)) <;> (refine Ra rfl (X_load (lB rfl rfl) ?_)) <;> (refine Ra rfl (xLen rfl ?_)) <;> (refine Ra rfl (X_mv rfl ?_)) <;> (refine R_nil ?_))) <;> ((refine thenQ_nrm ?_; (refine W_block ?_; ((
      refine wLoop (fun (p : Nat × S) => match p with | (i, s) => [(20, .int .i64 (i : Nat))]) (fun p => match p with | (i, s) => .box b9 [.int .i64 (cv (ks.map fun a => valE w vs (rwL rs) a.er) i 0), .int .i64 (cv (ks.map fun a => valE w vs (rwL rs) a.er) i 1), .int .i64 (cv (ks.map fun a => valE w vs (rwL rs) a.er) i 2)] :: .box b6 [.int .i64 op, .int .i64 n, .int .i64 c, v] :: .box b4 [.int .i64 w, vv, .int .i64 kk] :: L s (evs ++ evsL w vs (rwL rs) ((ks.map Et.er).take i))) (fun p _ => match p with | (i, _) => i ≤ ks.length) (fun p => match p with | (i, _) => ks.length - i) (0, s) (by repeat' (first | exact trivial | exact rfl | constructor)) (Upd.done ⟨Nat.zero_le _, ?_⟩) ?_
      · dsimp only
        rw [List.take_zero, evsL, List.append_nil]
        exact hB rfl (hB rfl (hB rfl (by repeat' first | exact Has.refl' _ | apply Has.skip)))
      rintro ⟨i, s⟩ Z1 hz1 hi
      have hi : i ≤ ks.length := hi
      have hvl0 : (ks.map fun a => valE w vs (rwL rs) a.er).length = ks.length := List.length_map _
      have hcw : ∀ j, wrdP w (cv (ks.map fun a => valE w vs (rwL rs) a.er) i j) := cv_wrd hw (fun j hj => by rw [valT_get (by omega)]; exact hwk j (by omega)) (by omega)
      have hcb : ∀ j, 0 ≤ cv (ks.map fun a => valE w vs (rwL rs) a.er) i j ∧ cv (ks.map fun a => valE w vs (rwL rs) a.er) i j < 256 := fun j => (by have := hcw j; unfold wrdP at this; omega)
      have hcb0 := hcb 0
      have hcb1 := hcb 1) <;> (refine W_seq ?_; (refine W_rgn ?_; ((refine Ra rfl (X_lss rfl rfl (fun _ => ?_) (fun _ => ?_))) <;> (refine R_nil ?_))) <;> ((refine thenQ_nrm ?_; (refine W_seq ?_; (refine W_cond rfl (fun ht => ?_) (fun ht => ?_) <;> (first | exact absurd ht (by decide) | (refine W_skip ?_) | (refine W_exit ?_))) <;> (first | refine thenQ_ext ?_ | (refine thenQ_nrm ?_; (refine W_seq ?_; (refine W_block ?_; (refine W_seq ?_; (refine W_rgn ?_; ((refine Ra rfl (X_mv rfl ?_)) <;> (refine Ra rfl (xIa rfl rfl (by omega) (by omega) ?_)) <;> (refine Ra rfl (X_load (lEA rfl (by omega)) ?_)) <;> (refine Ra rfl (X_alloc (fun b11 => ?_))) <;> (refine Ra rfl (X_mv rfl ?_)) <;> (refine Rn (xSW rfl rfl (Et.b4 _) rfl ?_)) <;> (refine R_nil ?_))) <;> ((refine thenQ_nrm ?_; (refine W_rgn ?_; ((refine Ra rfl (X_mv rfl ?_); (obtain ⟨i9, hi9⟩ : ∃ i9 : Nat, i9 = i := ⟨i, rfl⟩; rcases (show i = 0 ∨ i = 1 ∨ i = 2 by omega) with rfl | rfl | rfl)) <;> (refine Ra rfl (X_load (lBA rfl rfl) ?_)) <;> (refine Ra rfl (X_mv rfl ?_)) <;> (refine Ra rfl (X_load (lBA rfl (Et.b4 _)) ?_)) <;> (refine Ra rfl (X_mv rfl ?_)) <;> (first | (refine Ra rfl (xNt (ih _ (getD_in (by omega)) (Tr.le ZC.le (hk _ (getD_in (by omega)))) (Fz.le hv ZC.le) (Fz.le hsv ZC.le) (hrk.le ZC.le) (hfk _ (by omega)) (hz0.trans ZC.le) s (evs ++ evsL w vs (rwL rs) ((ks.map Et.er).take 0)) (by rw [List.length_append]; have q1 := sizeT_get (ks := ks) (i := 0) (by omega); have q2 := evsL_len (w := w) (vs := vs) (sts := rwL rs) ((ks.map Et.er).take 0); have q3 := sizeT_take (ks := ks) (i := 0) (by omega); have q4 := Ex.sizeL_le (ks := ks.map Et.er) (i := 0 + 1); omega)) rfl (by repeat' first | exact Pick.refl' _ | apply Pick.skip) (fun _ Z30 o30 hz30 hq O2 hO => ?_)); (obtain ⟨rfl, s9, rfl⟩ := hq; simp only [List.cons_append, List.nil_append] at hO; subst hO)) | (refine Ra rfl (xNt (ih _ (getD_in (by omega)) (Tr.le ZC.le (hk _ (getD_in (by omega)))) (Fz.le hv ZC.le) (Fz.le hsv ZC.le) (hrk.le ZC.le) (hfk _ (by omega)) (hz0.trans ZC.le) s (evs ++ evsL w vs (rwL rs) ((ks.map Et.er).take 1)) (by rw [List.length_append]; have q1 := sizeT_get (ks := ks) (i := 1) (by omega); have q2 := evsL_len (w := w) (vs := vs) (sts := rwL rs) ((ks.map Et.er).take 1); have q3 := sizeT_take (ks := ks) (i := 1) (by omega); have q4 := Ex.sizeL_le (ks := ks.map Et.er) (i := 1 + 1); omega)) rfl (by repeat' first | exact Pick.refl' _ | apply Pick.skip) (fun _ Z30 o30 hz30 hq O2 hO => ?_)); (obtain ⟨rfl, s9, rfl⟩ := hq; simp only [List.cons_append, List.nil_append] at hO; subst hO)) | (refine Ra rfl (xNt (ih _ (getD_in (by omega)) (Tr.le ZC.le (hk _ (getD_in (by omega)))) (Fz.le hv ZC.le) (Fz.le hsv ZC.le) (hrk.le ZC.le) (hfk _ (by omega)) (hz0.trans ZC.le) s (evs ++ evsL w vs (rwL rs) ((ks.map Et.er).take 2)) (by rw [List.length_append]; have q1 := sizeT_get (ks := ks) (i := 2) (by omega); have q2 := evsL_len (w := w) (vs := vs) (sts := rwL rs) ((ks.map Et.er).take 2); have q3 := sizeT_take (ks := ks) (i := 2) (by omega); have q4 := Ex.sizeL_le (ks := ks.map Et.er) (i := 2 + 1); omega)) rfl (by repeat' first | exact Pick.refl' _ | apply Pick.skip) (fun _ Z30 o30 hz30 hq O2 hO => ?_)); (obtain ⟨rfl, s9, rfl⟩ := hq; simp only [List.cons_append, List.nil_append] at hO; subst hO))) <;> (refine Ra rfl (xIaa rfl rfl (by omega) (by omega) ?_)) <;> (refine Rn (xSB rfl rfl rfl rfl rfl ?_)) <;> (refine R_nil ?_)))))) <;> (refine blockQ_nrm ?_)) <;> ((refine thenQ_nrm ?_; (refine W_rgn ?_; ((refine Ra rfl (X_addI rfl rfl (by omega) (by omega) ?_)) <;> (refine Ra rfl (X_mv rfl ?_)) <;> (refine R_nil ?_)))))))))))) <;> (first | refine thenQ_ext ?_ | (refine thenQ_nrm ?_; (
        refine Upd.done ⟨(i9 + 1, s9), ?_, ?_, ?_, hB ?_ (hB rfl (hB rfl ?_))⟩
        · subst hi9
          show ks.length - (_ + 1) < ks.length - _
          omega
        · subst hi9
          show _ + 1 ≤ ks.length
          omega
        · subst hi9
          repeat' (first | exact trivial | exact rfl | constructor)
        · subst hi9
          show [Value.int .i64 _, Value.int .i64 _, Value.int .i64 _] = [Value.int .i64 _, Value.int .i64 _, Value.int .i64 _]
          simp only [List.cons.injEq, Value.int.injEq, true_and, and_true]
          refine ⟨?_, ?_, ?_⟩ <;> first
            | rfl
            | (unfold cv; rw [if_pos (by omega), if_pos (by omega)])
            | (unfold cv; rw [if_neg (by omega), if_neg (by omega)])
            | (unfold cv; rw [if_pos (by omega)]; exact (valT_get (by omega)).symm)
        · show Has _ (L s9 (evs ++ evsL w vs (rwL rs) ((ks.map Et.er).take (i9 + 1))))
          rw [evsT_take (i := i9) (by omega), ← List.append_assoc]
          subst hi9
          exact (by repeat' first | exact Has.refl' _ | apply Has.skip))))) <;> (refine blockQ_ext ?_))))) <;> ((refine thenQ_nrm ?_; (refine W_seq ?_; (refine W_seq ?_; (refine W_rgn ?_; ((refine Ra rfl (X_faddr rfl ?_)) <;> (refine Ra rfl (X_load (lB rfl rfl) ?_)) <;> (refine R_nil ?_))) <;> ((refine thenQ_nrm ?_; (refine W_block ?_; (refine W_seq ?_; (refine W_rgn ?_; ((refine Ra rfl (X_eql rfl rfl (fun _ => ?_) (fun _ => ?_))) <;> (refine Ra rfl (X_mv rfl ?_)) <;> (refine R_nil ?_))) <;> ((refine thenQ_nrm ?_; (refine W_cond rfl (fun ht => ?_) (fun ht => ?_) <;> (first | exact absurd ht (by decide) | (refine W_seq ?_; (refine W_rgn ?_; ((refine Ra rfl (X_faddr rfl ?_)) <;> (refine Ra rfl (X_load (lB rfl rfl) ?_)) <;> (refine Ra rfl (X_mv rfl ?_)) <;> (refine R_nil ?_))) <;> ((refine thenQ_nrm ?_; (refine W_ret ?_)))) | (refine W_seq ?_; (refine W_rgn ?_; ((refine Ra rfl (X_eql rfl rfl (fun _ => ?_) (fun _ => ?_))) <;> (refine Ra rfl (X_mv rfl ?_)) <;> (refine R_nil ?_))) <;> ((refine thenQ_nrm ?_; (refine W_cond rfl (fun ht => ?_) (fun ht => ?_) <;> (first | exact absurd ht (by decide) | (refine W_seq ?_; (refine W_rgn ?_; ((refine Ra rfl (X_mv rfl ?_)) <;> (refine R_nil ?_))) <;> ((refine thenQ_nrm ?_; (refine W_seq ?_; (refine W_seq ?_; (refine W_rgn ?_; ((refine Ra rfl (X_faddr rfl ?_)) <;> (refine Ra rfl (X_load (lB rfl rfl) ?_)) <;> (refine Ra rfl (xLen rfl ?_)) <;> (refine Ra rfl (X_gtr rfl rfl (fun _ => ?_) (fun _ => ?_))) <;> (refine R_nil ?_))) <;> ((refine thenQ_nrm ?_; (refine W_cond rfl (fun ht => ?_) (fun ht => ?_) <;> (first | exact absurd ht (by decide) | (refine W_seq ?_; (refine W_drw ?_; ((refine Da rfl rfl (xIaa rfl rfl (by omega) (by omega) ?_)) <;> (refine Da rfl rfl (X_load (lB rfl rfl) ?_)) <;> (refine Da rfl rfl (X_faddr rfl ?_)) <;> (refine Da rfl rfl (X_load (lB rfl rfl) ?_)) <;> (refine Da rfl rfl (X_faddr rfl ?_)) <;> (refine Da rfl rfl (X_load (lB rfl rfl) ?_)) <;> (refine Da rfl rfl (xIa rfl rfl (by omega) (by omega) ?_)) <;> (refine Da rfl rfl (X_faddr rfl ?_)) <;> (refine Da rfl rfl (X_load (lE rfl (by omega) rfl) ?_)) <;> (refine Da rfl rfl (X_remI rfl rfl (by omega) (by omega) ?_)) <;> (refine Da rfl rfl (X_mv rfl ?_)) <;> (refine D_nil ?_))) <;> ((refine thenQ_nrm ?_; (refine W_rgn ?_; ((refine Ra rfl (X_mv rfl ?_)) <;> (refine Ra rfl (X_faddr rfl ?_)) <;> (refine Ra rfl (X_load (lB rfl rfl) ?_)) <;> (refine Ra rfl (X_mv rfl ?_)) <;> (refine Ra rfl (xDt rfl rfl (hsee _ (hz0.trans ZC.le) s (evs ++ evsL w vs (rwL rs) ((ks.map Et.er).take i)) _ _ (by rw [List.length_append]; have q2 := evsL_len (w := w) (vs := vs) (sts := rwL rs) ((ks.map Et.er).take i); have q4 := Ex.sizeL_le (ks := ks.map Et.er) (i := i); omega)) (by repeat' first | exact Pick.refl' _ | apply Pick.skip) (fun _ Z59 o59 hz59 hq O2 hO => ?_)); (obtain ⟨s9, rfl⟩ := hq; simp only [List.cons_append, List.nil_append] at hO; subst hO)) <;> (refine R_nil ?_)))))) | (refine W_skip ?_)))))) <;> ((refine thenQ_nrm ?_; (refine W_seq ?_; (refine W_drw ?_; ((refine Da rfl rfl (X_mv rfl ?_)) <;> (refine Da rfl rfl (X_faddr rfl ?_)) <;> (refine Da rfl rfl (X_load (lB rfl rfl) ?_)) <;> (refine Da rfl rfl (xIa rfl rfl (by omega) (by omega) ?_)) <;> (refine Da rfl rfl (X_load (lE0 rfl (by omega) rfl) ?_); (have hfc := (hrk c.toNat (by omega)).1)) <;> (refine Da rfl rfl (X_load (lBA rfl rfl) ?_)) <;> (refine Da rfl rfl (X_faddr rfl ?_)) <;> (refine Da rfl rfl (X_load (lB rfl rfl) ?_)) <;> (refine Da rfl rfl (X_mv rfl ?_)) <;> (refine D_consR rfl (S_do rfl (xP (PFirst_ok lo (vs := vs) _ hH (Fz.le hv ZC.le) (by omega) (by omega)) rfl (fun _ Z68 hz68 hq => ⟨(by (refine rDo rfl rfl (lB rfl rfl) ?_); (refine rDo rfl rfl (lE0 rfl (by omega) rfl) ?_); exact Rck_nil), ?_⟩))); (subst hq)) <;> (refine Da rfl rfl (X_addI rfl rfl (by have q9 := hemd (cv (ks.map fun a => valE w vs (rwL rs) a.er) i 0) (by assumption); have q8 := hce (by assumption); omega) (by have q9 := hemd (cv (ks.map fun a => valE w vs (rwL rs) a.er) i 0) (by assumption); have q8 := hce (by assumption); omega) ?_)) <;> (first | (refine Da rfl rfl (xIa rfl rfl (hci (by assumption) _).1 (hci (by assumption) _).2 ?_)) | (refine Da rfl rfl (xIa rfl rfl (hcz (by assumption)).1 (hcz (by assumption)).2 ?_))) <;> (first | (refine Da rfl rfl (X_load (lE0 rfl (hci (by assumption) _).2 rfl) ?_)) | (refine Da rfl rfl (X_load (lE0 rfl (hcz (by assumption)).2 rfl) ?_))) <;> (refine Da rfl rfl (X_mv rfl ?_)) <;> (refine D_nil ?_))) <;> ((refine thenQ_nrm ?_; (refine W_ret ?_)))))))))) | (refine W_seq ?_; (refine W_rgn ?_; ((refine Ra rfl (X_eql rfl rfl (fun _ => ?_) (fun _ => ?_))) <;> (refine Ra rfl (X_mv rfl ?_)) <;> (refine R_nil ?_))) <;> ((refine thenQ_nrm ?_; (refine W_cond rfl (fun ht => ?_) (fun ht => ?_) <;> (first | exact absurd ht (by decide) | (refine W_seq ?_; (refine W_rgn ?_; ((refine Ra rfl (X_faddr rfl ?_)) <;> (refine Ra rfl (X_load (lB rfl rfl) ?_)) <;> (refine Ra rfl (xIaa rfl rfl (by omega) (by omega) ?_)) <;> (refine Ra rfl (X_load (lB rfl rfl) ?_)) <;> (refine Ra rfl (xP (Not_ok lo _ _ hw (hcw 0)) rfl (fun _ Z80 hz80 hq => ?_)); (subst hq)) <;> (refine Ra rfl (X_mv rfl ?_)) <;> (refine Ra rfl (X_extract rfl rfl ?_)) <;> (refine Ra rfl (X_extract rfl rfl ?_)) <;> (refine Ra rfl (X_mv rfl ?_)) <;> (refine Ra rfl (X_mv rfl ?_)) <;> (refine R_nil ?_))) <;> ((refine thenQ_nrm ?_; (refine W_seq ?_; (refine W_rgn ?_; ((refine Ra rfl (X_mv rfl ?_)) <;> (refine Ra rfl (X_mv rfl ?_)) <;> (refine R_nil ?_))) <;> ((refine thenQ_nrm ?_; (refine W_ret ?_))))))) | (refine W_seq ?_; (refine W_rgn ?_; ((refine Ra rfl (X_eql rfl rfl (fun _ => ?_) (fun _ => ?_))) <;> (refine Ra rfl (X_mv rfl ?_)) <;> (refine R_nil ?_))) <;> ((refine thenQ_nrm ?_; (refine W_cond rfl (fun ht => ?_) (fun ht => ?_) <;> (first | exact absurd ht (by decide) | (refine W_seq ?_; (refine W_seq ?_; (refine W_rgn ?_; ((refine Ra rfl (xIaa rfl rfl (by omega) (by omega) ?_)) <;> (refine Ra rfl (X_load (lB rfl rfl) ?_)) <;> (refine Ra rfl (X_neq rfl rfl (fun _ => ?_) (fun _ => ?_))) <;> (refine R_nil ?_))) <;> ((refine thenQ_nrm ?_; (refine W_cond rfl (fun ht => ?_) (fun ht => ?_) <;> (first | exact absurd ht (by decide) | (refine W_seq ?_; (refine W_rgn ?_; ((refine Ra rfl (xIaa rfl rfl (by omega) (by omega) ?_)) <;> (refine Ra rfl (X_load (lB rfl rfl) ?_)) <;> (refine Ra rfl (X_mv rfl ?_)) <;> (refine R_nil ?_))) <;> ((refine thenQ_nrm ?_; (refine W_ret ?_)))) | (refine W_skip ?_)))))) <;> (first | refine thenQ_ret ?_ | (refine thenQ_nrm ?_; (refine W_seq ?_; (refine W_rgn ?_; ((refine Ra rfl (xIaa rfl rfl (by omega) (by omega) ?_)) <;> (refine Ra rfl (X_load (lB rfl rfl) ?_)) <;> (refine Ra rfl (X_mv rfl ?_)) <;> (refine R_nil ?_))) <;> ((refine thenQ_nrm ?_; (refine W_ret ?_))))))) | (refine W_skip ?_))))))))))))))))))))) <;> (first | refine blockQ_nrm ?_ | refine blockQ_ret ?_))))) <;> (first | refine thenQ_ret ?_ | (refine thenQ_nrm ?_; (refine W_seq ?_; (refine W_rgn ?_; ((refine Ra rfl (X_faddr rfl ?_)) <;> (refine Ra rfl (X_load (lB rfl rfl) ?_)) <;> (refine Ra rfl (X_faddr rfl ?_)) <;> (refine Ra rfl (X_load (lB rfl rfl) ?_)) <;> (refine Ra rfl (xIaa rfl rfl (by omega) (by omega) ?_)) <;> (refine Ra rfl (X_load (lB rfl rfl) ?_)) <;> (refine Ra rfl (xIaa rfl rfl (by omega) (by omega) ?_)) <;> (refine Ra rfl (X_load (lB rfl rfl) ?_)) <;> (refine Ra rfl (xP (Do_ok lo _ _ _ _ (hna.2.2.2.2.2 (by omega) (by omega) (by omega) (by omega)).2 hw (hcw 0) (hcw 1)) rfl (fun _ Z102 hz102 hq => ?_)); (subst hq)) <;> (refine Ra rfl (X_mv rfl ?_)) <;> (refine Ra rfl (X_extract rfl rfl ?_)) <;> (refine Ra rfl (X_extract rfl rfl ?_)) <;> (refine Ra rfl (X_mv rfl ?_)) <;> (refine Ra rfl (X_mv rfl ?_)) <;> (refine R_nil ?_))) <;> ((refine thenQ_nrm ?_; (refine W_seq ?_; (refine W_rgn ?_; ((refine Ra rfl (X_mv rfl ?_)) <;> (refine Ra rfl (X_mv rfl ?_)) <;> (refine R_nil ?_))) <;> ((refine thenQ_nrm ?_; (refine W_ret ?_)))))))))))))))))))
  <;> (refine fn_ret (Res.tmp rfl Res.nil) ?_)
  all_goals
    have hi2 : i = ks.length := by omega
    subst hi2
    dsimp only [tupled]
    first
      | (refine Upd.has (L := L s9 (evs ++ evsE w vs (rwL rs) (Et.mk op n c v ks).er)) ?_ ⟨?_, s9, rfl⟩
         · rw [evsT_mk, if_pos ⟨by assumption, by omega⟩, evsT_all, cvT (by omega), ← List.append_assoc]
           exact (by repeat' first | exact Has.refl' _ | apply Has.skip)
         · first
             | exact congrArg (Value.int .i64) (V0 (by omega))
             | exact congrArg (Value.int .i64) (V1 (by omega) (by omega) (by omega))
             | exact congrArg (Value.int .i64) (V1a (by omega) (by omega) (by omega))
             | exact congrArg (Value.int .i64) (V12 (by omega) (by omega))
             | exact congrArg (Value.int .i64) (V15a (by omega) (by omega) (by omega))
             | exact congrArg (Value.int .i64) (V15b (by omega) (by omega) (by omega))
             | exact congrArg (Value.int .i64) (V2 (by omega) (by omega) (by omega) (by omega) (by omega)))
      | (refine Upd.has (L := L s (evs ++ evsE w vs (rwL rs) (Et.mk op n c v ks).er)) ?_ ⟨?_, s, rfl⟩
         · rw [evsT_mk, if_neg (by omega), evsT_all, List.append_nil]
           exact (by repeat' first | exact Has.refl' _ | apply Has.skip)
         · first
             | exact congrArg (Value.int .i64) (V0 (by omega))
             | exact congrArg (Value.int .i64) (V1 (by omega) (by omega) (by omega))
             | exact congrArg (Value.int .i64) (V1a (by omega) (by omega) (by omega))
             | exact congrArg (Value.int .i64) (V12 (by omega) (by omega))
             | exact congrArg (Value.int .i64) (V15a (by omega) (by omega) (by omega))
             | exact congrArg (Value.int .i64) (V15b (by omega) (by omega) (by omega))
             | exact congrArg (Value.int .i64) (V2 (by omega) (by omega) (by omega) (by omega) (by omega)))
end Go.Proofs.Ytlidnionbofkaaa.Hm.V
