/- Trees that are the call's own: Move. -/
import Derived.Test.YtlidnionbofkaaaHF
import Derived.Test.YtlidnionbofkaaaA6
import Derived.Test.YtlidnionbofkaaaVE19
namespace Go.Proofs.Ytlidnionbofkaaa.Hm.V
open Go
set_option linter.all false
set_option maxRecDepth 100000
attribute [local irreducible] X S R D W Call Upd Rds Rck Sees Res Cel CallP fnQ
mutual
def Et.pts : Et → List Pt
  | .mk _ _ _ v ks => .gro v 4 (ks.map Et.cs) :: Et.ptsL ks
def Et.ptsL : List Et → List Pt
  | [] => []
  | a :: ks => a.pts ++ Et.ptsL ks
end
theorem Et.pts_mk {op n c : Int} {v : Value} {ks : List Et} : (Et.mk op n c v ks).pts = .gro v 4 (ks.map Et.cs) :: Et.ptsL ks := by rw [Et.pts]
theorem ptsL_app : ∀ {a b : List Et}, Et.ptsL (a ++ b) = Et.ptsL a ++ Et.ptsL b
  | [], b => rfl
  | x :: a, b => by rw [List.cons_append, Et.ptsL, ptsL_app, Et.ptsL, List.append_assoc]
theorem ptsL_snoc {a : List Et} {x : Et} : Et.ptsL (a ++ [x]) = Et.ptsL a ++ x.pts := by rw [ptsL_app, Et.ptsL, Et.ptsL, List.append_nil]
theorem split_at {ks : List Et} {i : Nat} (h : i < ks.length) : ks = ks.take i ++ (ks.getD i default :: ks.drop (i + 1)) := by
  rw [getD_eq h, ← List.drop_eq_getElem_cons h, List.take_append_drop]
theorem ptsL_perm {ks : List Et} {i : Nat} (h : i < ks.length) : (Et.ptsL ks).Perm ((Et.ptsL (ks.take i) ++ Et.ptsL (ks.drop (i + 1))) ++ (ks.getD i default).pts) := by
  have e : Et.ptsL ks = Et.ptsL (ks.take i) ++ ((ks.getD i default).pts ++ Et.ptsL (ks.drop (i + 1))) := by
    rw [show (ks.getD i default).pts ++ Et.ptsL (ks.drop (i + 1)) = Et.ptsL (ks.getD i default :: ks.drop (i + 1)) by rw [Et.ptsL], ← ptsL_app, ← split_at h]
  rw [e, List.append_assoc]
  exact List.perm_append_comm.append_left _
theorem Pick.app : ∀ (r L : List Pt), Pick (r ++ L) L r
  | [], L => Pick.refl' L
  | x :: r, L => (Pick.app r L).skip
section
variable {F : Nat → Option HFn} {lo N : Nat} {A : Tab} {Z : Vw} {O : List Pt} {K : Value → Vw → List Pt → Prop}
unseal X in
theorem X_perm0 {op : HOp} {O1 : List Pt} (p : O.Perm O1) (k : X F lo op N A Z O1 K) : X F lo op N A Z O K := by
  unfold X at *
  intro R σ h hs m
  exact k R σ h hs (m.perm (p.append_right R))
theorem xNp {args : List Operand} {k : Nat} {vs : List Value} {L r : List Pt} {Q : Value → Vw → List Pt → Prop} (p : O.Perm (r ++ L)) (hc : Call F lo k vs Z L Q) (ha : evsA A args = some vs) (kk : ∀ v Z' O', ZL Z Z' → Q v Z' O' → ∃ O2, (r ++ O').Perm O2 ∧ K v Z' O2) : X F lo (.call (.func k) args) N A Z O K :=
  X_perm0 p (X_perm (xNt hc ha (Pick.app r L) fun v Z' O' hz hq O2 e => by subst e; exact kk v Z' O' hz hq))
end
set_option maxHeartbeats 4000000 in
theorem moved_own (lo : Nat) {w cp : Int} {vs : List Vr} : ∀ (t : Et) {Z : Vw} (_ : Tr Z t) (_ : t.er.size ≤ 1000000) (_ : formE w vs 1 t.er), Call F lo 53 [.agg ⟨t.cs⟩, .int .i64 cp] Z [] fun r _ O' => ∃ t' : Et, r = .agg ⟨t'.cs⟩ ∧ O' = t'.pts ∧ t'.er = t.er.mov cp := by
  intro t
  induction t using Et.ind with
  | h op n c v ks ih =>
  intro Z ht hs hfm
  rw [Tr_mk] at ht
  obtain ⟨⟨hf, hlen⟩, hk⟩ := ht
  have hEl : (ks.map Et.er).length = ks.length := List.length_map _
  rw [sizeT_mk] at hs
  have hkl : ks.length ≤ 1000000 := by have := Ex.len_le (ks.map Et.er); rw [hEl] at this; omega
  rw [formT_mk] at hfm
  obtain ⟨hnd, hfk⟩ := hfm
  have hc0 : op ≠ 1 → c = 0 := fun h => ((nodeP_ne h).1 hnd).1
  simp only [Et.cs]
  refine Fn (fn := c53) rfl rfl rfl ?_
  (refine W_seq ?_; (refine W_rgn ?_; ((refine Ra rfl (xBox rfl (fun b2 => ?_))) <;> (refine Ra rfl (X_alloc (fun b4 => ?_))) <;> (refine R_nil ?_))) <;> ((refine thenQ_nrm ?_; (refine W_seq ?_; (refine W_seq ?_; (refine W_rgn ?_; ((refine Ra rfl (X_faddr rfl ?_)) <;> (refine Ra rfl (X_load (lB rfl rfl) ?_)) <;> (refine Ra rfl (X_eql rfl rfl (fun _ => ?_) (fun _ => ?_))) <;> (refine R_nil ?_))) <;> ((refine thenQ_nrm ?_; (refine W_cond rfl (fun ht => ?_) (fun ht => ?_) <;> (first | exact absurd ht (by decide) | (refine W_rgn ?_; ((refine Ra rfl (X_mv rfl ?_)) <;> (refine Ra rfl (X_faddr rfl ?_)) <;> (refine Rn (xSB rfl rfl rfl rfl rfl ?_)) <;> (refine R_nil ?_))) | (refine W_skip ?_)))))) <;> ((refine thenQ_nrm ?_; (refine W_seq ?_; (refine W_rgn ?_; ((refine Ra rfl (X_mv rfl ?_)) <;> (refine R_nil ?_))) <;> ((refine thenQ_nrm ?_; (refine W_seq ?_; (refine W_seq ?_; (refine W_rgn ?_; ((refine Ra rfl (X_faddr rfl ?_)) <;> (refine Ra rfl (X_load (lB rfl rfl) ?_)) <;> (refine Ra rfl (xLen rfl ?_)) <;> (refine Ra rfl (X_mv rfl ?_)) <;> (refine R_nil ?_))) <;> ((refine thenQ_nrm ?_; (refine W_block ?_; ((
      obtain ⟨c9x, hc9x⟩ : ∃ c9x, c9x = (if op = 1 then cp else 0) := ⟨_, rfl⟩
      refine wLoop (fun (p : Nat × Value × List Et) => match p with | (i, vl, ts) => [(16, .int .i64 i), (5, vl)]) (fun p => match p with | (i, vl, ts) => .box b4 [.int .i64 0, .int .i64 0, .int .i64 0, .slice none 0 0] :: .box b2 [.int .i64 op, .int .i64 n, .int .i64 c9x, v] :: .gro vl 4 (ts.map Et.cs) :: Et.ptsL ts) (fun p Zi => match p with | (i, vl, ts) => i ≤ ks.length ∧ ts.length = i ∧ ts.map Et.er = ((ks.map Et.er).take i).map (Ex.mov cp)) (fun p => match p with | (i, _, _) => ks.length - i) (0, .slice none 0 0, []) (by repeat' (first | exact trivial | exact rfl | constructor)) (Upd.gro0 (e := 4) (by decide) (Upd.done ⟨⟨Nat.zero_le _, rfl, by simp⟩, (hB rfl (hB (by rw [hc9x]; first | (rw [if_pos (by assumption)]; rfl) | (rw [if_neg (by assumption), hc0 (by assumption)])) (hG rfl Has.nil)))⟩)) ?_
      rintro ⟨i, vl, ts⟩ Z1 hz1 hp
      obtain ⟨hi, htl, hte⟩ : i ≤ ks.length ∧ ts.length = i ∧ ts.map Et.er = ((ks.map Et.er).take i).map (Ex.mov cp) := hp
      have hsk : i < ks.length → (ks.getD i default).er.size ≤ 1000000 := fun h => (by have := sizeT_get h; omega)) <;> (refine W_seq ?_; (refine W_rgn ?_; ((refine Ra rfl (X_lss rfl rfl (fun _ => ?_) (fun _ => ?_))) <;> (refine R_nil ?_))) <;> ((refine thenQ_nrm ?_; (refine W_seq ?_; (refine W_cond rfl (fun ht => ?_) (fun ht => ?_) <;> (first | exact absurd ht (by decide) | (refine W_skip ?_) | (refine W_exit ?_))) <;> (first | refine thenQ_ext ?_ | (refine thenQ_nrm ?_; (refine W_seq ?_; (refine W_block ?_; (refine W_seq ?_; (refine W_rgn ?_; ((refine Ra rfl (xIa rfl rfl (by omega) (by omega) ?_)) <;> (refine Ra rfl (X_load (lEA rfl (by omega)) ?_)) <;> (refine Ra rfl (X_alloc (fun b7 => ?_))) <;> (refine Rn (xSW rfl rfl (Et.b4 _) rfl ?_)) <;> (refine R_nil ?_))) <;> ((refine thenQ_nrm ?_; (refine W_rgn ?_; ((refine Ra rfl (X_mv rfl ?_)) <;> (refine Ra rfl (X_load (lBA rfl (Et.b4 _)) ?_)) <;> (refine Ra rfl (X_mv rfl ?_)) <;> (refine Ra rfl (xNt (ih _ (getD_in (by omega)) (Tr.le ZC.le (hk _ (getD_in (by omega)))) (hsk (by omega)) (hfk i (by omega))) rfl Pick.nil (fun r23 Z23 o23 hz23 hq O2 hO => ?_)); (obtain ⟨⟨o9, n9, c9, v9, ks9⟩, rfl, rfl, he9⟩ := hq; simp only [List.cons_append, List.nil_append] at hO; subst hO)) <;> (refine Ra rfl (X_bsliceC (pCons rfl Parts.nil) rfl rfl rfl (fun v24 => ?_))) <;> (refine Ra rfl (xApGm (fe := Et.cs) (.mk o9 n9 c9 v9 ks9) rfl rfl rfl (by omega) (fun v25 => ?_))) <;> (refine Ra rfl (X_mv rfl ?_)) <;> (refine R_nil ?_)))))) <;> (refine blockQ_nrm ?_)) <;> ((refine thenQ_nrm ?_; (refine W_rgn ?_; ((refine Ra rfl (X_addI rfl rfl (by omega) (by omega) ?_)) <;> (refine Ra rfl (X_mv rfl ?_)) <;> (refine R_nil ?_)))))))))))) <;> (first | refine thenQ_ext ?_ | (refine thenQ_nrm ?_; (
        refine Upd.done ⟨(i + 1, _, ts ++ [(Et.mk o9 n9 c9 v9 ks9)]), ?_, ⟨?_, ?_, ?_⟩, (by repeat' (first | exact trivial | exact rfl | constructor)), ?_⟩
        · show ks.length - (i + 1) < ks.length - i
          omega
        · show i + 1 ≤ ks.length
          omega
        · rw [List.length_append, htl]; rfl
        · rw [List.map_append, hte, take_snoc (by rw [hEl]; omega), List.map_append, map_get (by omega)]
          show _ ++ [(Et.mk o9 n9 c9 v9 ks9).er] = _
          rw [he9]; rfl
        · show Has _ (_ :: _ :: _ :: Et.ptsL (ts ++ [(Et.mk o9 n9 c9 v9 ks9)]))
          rw [ptsL_snoc]
          exact hB rfl (hB rfl (hG rfl (by repeat' first | exact Has.refl' _ | apply Has.skip))))))) <;> (refine blockQ_ext ?_))))) <;> ((refine thenQ_nrm ?_; (refine W_seq ?_; (refine W_rgn ?_; ((refine Ra rfl (X_mv rfl ?_)) <;> (refine Ra rfl (X_faddr rfl ?_)) <;> (refine Rn (xSB rfl rfl rfl rfl rfl ?_)) <;> (refine R_nil ?_))) <;> ((refine thenQ_nrm ?_; (refine W_seq ?_; (refine W_rgn ?_; ((refine Ra rfl (X_load (lBA rfl rfl) ?_)) <;> (refine Rn (xSW rfl rfl rfl rfl ?_)) <;> (refine R_nil ?_))) <;> ((refine thenQ_nrm ?_; (refine W_ret ?_)))))))))))))))))))
  <;> (refine fn_ret (rA rfl rfl Res.nil) ?_)
  all_goals
    have hi2 : i = ks.length := by omega
    subst hi2
    dsimp only [tupled]
    refine Upd.has (L := (Et.mk op n c9x vl ts).pts) ?_ ⟨.mk op n c9x vl ts, rfl, rfl, ?_⟩
    · rw [Et.pts_mk]
      exact (by repeat' first | exact Has.refl' _ | apply Has.skip)
    · rw [Et.er_mk, Et.er_mk, Ex.mov_mk, hte, List.take_of_length_le (by rw [hEl]; exact Nat.le_refl _), hc9x]
set_option maxHeartbeats 4000000 in
theorem Move_own (lo : Nat) {Z : Vw} {w cp : Int} {vv : Value} {vs : List Vr} {t : Et} (hvl : vs.length < 9223372036854775808) (hnm : ∀ i, i < vs.length → (vs.getD i default).nm.length < 9223372036854775808) (hv : Vrs Z vv vs) (htr : Tr Z t) (hP : headP w vs) (hp0 : 0 ≤ cp) (hp3 : cp < 3) (hIs : isE w vs 1 t.er) : Call F lo 24 [.int .i64 w, vv, .agg ⟨t.cs⟩, .int .i64 cp] Z [] fun r _ O' => ∃ t' : Et, r = .tuple ⟨[.agg ⟨t'.cs⟩, .int .i64 0]⟩ ∧ O' = t'.pts ∧ t'.er = t.er.mov cp := by
  refine Fn (fn := c24) rfl rfl rfl ?_
  (refine W_seq ?_; (refine W_rgn ?_; ((refine Ra rfl (xBox rfl (fun b6 => ?_))) <;> (refine Ra rfl (X_alloc (fun b8 => ?_))) <;> (refine Ra rfl (X_mv rfl ?_)) <;> (refine R_nil ?_))) <;> ((refine thenQ_nrm ?_; (refine W_seq ?_; (refine W_seq ?_; (refine W_rgn ?_; ((refine Ra rfl (X_mv rfl ?_)) <;> (refine Ra rfl (X_mv rfl ?_)) <;> (refine Ra rfl (xP (Heading_ok lo (vs := vs) w (by assumption) (by assumption)) rfl (fun _ Z13 hz13 hq => ?_)); (obtain ⟨e13, rfl, hq13⟩ := hq; rcases hq13 with ⟨rfl, hH⟩ | ⟨rfl, hH⟩)) <;> (first | (refine Ra rfl (X_bin (v := .bool true) rfl rfl rfl ?_)) | (refine Ra rfl (X_bin (v := .bool false) rfl rfl rfl ?_))) <;> (refine Ra rfl (X_mv rfl ?_)) <;> (first | (refine Rb rfl rfl (X_mv rfl ?_)) | (refine Rc rfl rfl ?_)) <;> (first | (refine Rb rfl rfl (X_lss rfl rfl (fun _ => ?_) (fun _ => ?_))) | (refine Rc rfl rfl ?_)) <;> (first | (refine Ra rfl (X_pickT rfl rfl ?_)) | (refine Ra rfl (X_pickF rfl rfl ?_))) <;> (refine Ra rfl (X_mv rfl ?_)) <;> (first | (refine Rb rfl rfl (X_mv rfl ?_)) | (refine Rc rfl rfl ?_)) <;> (first | (refine Rb rfl rfl (X_geq rfl rfl (fun _ => ?_) (fun _ => ?_))) | (refine Rc rfl rfl ?_)) <;> (first | (refine Ra rfl (X_pickT rfl rfl ?_)) | (refine Ra rfl (X_pickF rfl rfl ?_))) <;> (refine R_nil ?_))) <;> ((refine thenQ_nrm ?_; (refine W_cond rfl (fun ht => ?_) (fun ht => ?_) <;> (first | exact absurd ht (by decide) | (refine W_seq ?_; (refine W_rgn ?_; ((refine Ra rfl (X_buildC Parts.nil rfl ?_)) <;> (refine Rn (xSW rfl rfl rfl rfl ?_)) <;> (refine Ra rfl (X_mv rfl ?_)) <;> (refine R_nil ?_))) <;> ((refine thenQ_nrm ?_; (refine W_ret ?_)))) | (refine W_skip ?_)))))) <;> (first | refine thenQ_ret ?_ | (refine thenQ_nrm ?_; (refine W_seq ?_; (refine W_seq ?_; (refine W_rgn ?_; ((refine Ra rfl (X_mv rfl ?_)) <;> (refine Ra rfl (X_mv rfl ?_)) <;> (refine Ra rfl (X_load (lBA rfl (Et.b4 _)) ?_)) <;> (refine Ra rfl (xP (Check_ok lo (by assumption) (by assumption) (by first | assumption | exact Fz.le (by assumption) ZC.le) (by first | assumption | exact Tr.le ZC.le (by assumption))) rfl (fun _ Z27 hz27 hq => ?_)); (obtain ⟨e27, rfl, hq27⟩ := hq; rcases hq27 with ⟨rfl, q1, q2, q3, hI⟩ | ⟨rfl, q1⟩ | ⟨rfl, q1, hI⟩ <;> first | exact absurd ⟨hH, by omega, by omega⟩ q1 | skip)) <;> (refine Ra rfl (X_mv rfl ?_)) <;> (refine R_nil ?_))) <;> ((refine thenQ_nrm ?_; (refine W_seq ?_; (refine W_rgn ?_; ((refine Ra rfl (X_mv rfl ?_)) <;> (first | (refine Ra rfl (X_bin (v := .bool true) rfl rfl rfl ?_)) | (refine Ra rfl (X_bin (v := .bool false) rfl rfl rfl ?_))) <;> (refine R_nil ?_))) <;> ((refine thenQ_nrm ?_; (refine W_cond rfl (fun ht => ?_) (fun ht => ?_) <;> (first | exact absurd ht (by decide) | (refine W_seq ?_; (refine W_rgn ?_; ((refine Ra rfl (X_buildC Parts.nil rfl ?_)) <;> (refine Ra rfl (X_mv rfl ?_)) <;> (refine Rn (xSW rfl rfl rfl rfl ?_)) <;> (refine Ra rfl (X_mv rfl ?_)) <;> (refine R_nil ?_))) <;> ((refine thenQ_nrm ?_; (refine W_ret ?_)))) | (refine W_skip ?_))))))))) <;> (first | refine thenQ_ret ?_ | (refine thenQ_nrm ?_; (refine W_seq ?_; (refine W_rgn ?_; ((refine Ra rfl (X_load (lBA rfl (Et.b4 _)) ?_)) <;> (refine Ra rfl (X_mv rfl ?_)) <;> (refine Ra rfl (xNt (moved_own lo _ (by first | assumption | exact Tr.le ZC.le (by assumption)) (by have := hIs.1; omega) hIs.2.2) rfl Pick.nil (fun r34 Z34 o34 hz34 hq O2 hO => ?_)); (obtain ⟨⟨o9, n9, c9, v9, ks9⟩, rfl, rfl, he9⟩ := hq; simp only [List.cons_append, List.nil_append] at hO; subst hO)) <;> (refine Rn (xSW rfl rfl rfl rfl ?_)) <;> (refine Ra rfl (X_mv rfl ?_)) <;> (refine R_nil ?_))) <;> ((refine thenQ_nrm ?_; (refine W_ret ?_)))))))))))))
  <;> (refine fn_ret (rA rfl rfl (Res.tmp rfl Res.nil)) ?_)
  all_goals
    first
      | (exfalso; first | exact hH hP | omega | exact hI hIs)
      | exact Upd.has (L := (Et.mk o9 n9 c9 v9 ks9).pts) (by repeat' first | exact Has.refl' _ | apply Has.skip) ⟨(Et.mk o9 n9 c9 v9 ks9), rfl, rfl, he9⟩
end Go.Proofs.Ytlidnionbofkaaa.Hm.V
