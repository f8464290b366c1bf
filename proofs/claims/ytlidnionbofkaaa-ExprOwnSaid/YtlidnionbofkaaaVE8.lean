/- The same trees, moved trees. -/
import Derived.Test.YtlidnionbofkaaaHF
import Derived.Test.YtlidnionbofkaaaA6
import Derived.Test.YtlidnionbofkaaaVE7
namespace Go.Proofs.Ytlidnionbofkaaa.Hm.V
open Go
set_option linter.all false
set_option maxRecDepth 100000
attribute [local irreducible] X S R D W Call Upd Rds Rck Sees Res Cel CallP fnQ
theorem er_eq_iff {op n c op2 n2 c2 : Int} {v v2 : Value} {ks ks2 : List Et} : (Et.mk op n c v ks).er = (Et.mk op2 n2 c2 v2 ks2).er ↔ op = op2 ∧ n = n2 ∧ c = c2 ∧ ks.length = ks2.length ∧ ∀ i, i < ks.length → (ks.getD i default).er = (ks2.getD i default).er := by
  rw [Et.er_mk, Et.er_mk]
  constructor
  · intro h
    injection h with h1 h2 h3 h4
    refine ⟨h1, h2, h3, by have := congrArg List.length h4; simpa using this, fun i hi => ?_⟩
    have hl : ks.length = ks2.length := by have := congrArg List.length h4; simpa using this
    rw [← map_get (f := Et.er) hi, ← map_get (f := Et.er) (hl ▸ hi), h4]
  · rintro ⟨rfl, rfl, rfl, hl, h⟩
    congr 1
    apply List.ext_getElem (by simpa using hl)
    intro i h1 h2
    have hi : i < ks.length := by simpa using h1
    have := h i hi
    rw [getD_eq hi, getD_eq (hl ▸ hi)] at this
    simpa using this
theorem Ex.len_le : ∀ ks : List Ex, ks.length ≤ Ex.sizeL ks
  | [] => by simp [Ex.sizeL]
  | a :: ks => by have h1 := Ex.size_pos a; have h2 := Ex.len_le ks; rw [List.length_cons, Ex.sizeL]; omega
theorem sizeT_get {ks : List Et} {i : Nat} (h : i < ks.length) : (ks.getD i default).er.size ≤ Ex.sizeL (ks.map Et.er) := by
  have := Ex.size_get (ks := ks.map Et.er) (i := i) (by simpa using h)
  rwa [map_get h] at this
def Et.z : Et := .mk 0 0 0 (.slice none 0 0) []
theorem Tr.z (Z : Vw) : Tr Z Et.z := Tr_mk.2 ⟨⟨Fz.nil _ _, by decide⟩, fun a ha => absurd ha (by simp)⟩
set_option maxHeartbeats 4000000 in
theorem Same_ok (lo : Nat)  : ∀ (t : Et) {Z : Vw} (_ : Tr Z t) (t2 : Et) (_ : Tr Z t2), CallP F lo 14 [.agg ⟨t.cs⟩, .agg ⟨t2.cs⟩] Z fun r _ => ∃ b, r = .bool b ∧ (b = true ↔ t.er = t2.er) := by
  intro t
  induction t using Et.ind with
  | h op n c v ks ih =>
  intro Z ht t2 ht2
  rw [Tr_mk] at ht
  obtain ⟨⟨hf, hlen⟩, hk⟩ := ht
  have hEl : (ks.map Et.er).length = ks.length := List.length_map _
  obtain ⟨op2, n2, c2, v2, ks2⟩ := t2
  rw [Tr_mk] at ht2
  obtain ⟨⟨hf2, hlen2⟩, hk2⟩ := ht2
  simp only [Et.cs]
  refine FnP (fn := c14) rfl rfl rfl ?_
  (refine W_seq ?_; (refine W_rgn ?_; ((refine Ra rfl (xBox rfl (fun b2 => ?_))) <;> (refine Ra rfl (xBox rfl (fun b3 => ?_))) <;> (refine Ra rfl (X_mv rfl ?_)) <;> (refine R_nil ?_))) <;> ((refine thenQ_nrm ?_; (refine W_seq ?_; (refine W_seq ?_; (refine W_rgn ?_; ((refine Ra rfl (X_faddr rfl ?_)) <;> (refine Ra rfl (X_load (lB rfl rfl) ?_)) <;> (refine Ra rfl (X_faddr rfl ?_)) <;> (refine Ra rfl (X_load (lB rfl rfl) ?_)) <;> (refine Ra rfl (X_neq rfl rfl (fun _ => ?_) (fun _ => ?_))) <;> (refine Ra rfl (X_mv rfl ?_)) <;> (first | (refine Rb rfl rfl (X_faddr rfl ?_)) | (refine Rc rfl rfl ?_)) <;> (first | (refine Rb rfl rfl (X_load (lB rfl rfl) ?_)) | (refine Rc rfl rfl ?_)) <;> (first | (refine Rb rfl rfl (X_faddr rfl ?_)) | (refine Rc rfl rfl ?_)) <;> (first | (refine Rb rfl rfl (X_load (lB rfl rfl) ?_)) | (refine Rc rfl rfl ?_)) <;> (first | (refine Rb rfl rfl (X_neq rfl rfl (fun _ => ?_) (fun _ => ?_))) | (refine Rc rfl rfl ?_)) <;> (first | (refine Ra rfl (X_pickT rfl rfl ?_)) | (refine Ra rfl (X_pickF rfl rfl ?_))) <;> (refine Ra rfl (X_mv rfl ?_)) <;> (first | (refine Rb rfl rfl (X_faddr rfl ?_)) | (refine Rc rfl rfl ?_)) <;> (first | (refine Rb rfl rfl (X_load (lB rfl rfl) ?_)) | (refine Rc rfl rfl ?_)) <;> (first | (refine Rb rfl rfl (X_faddr rfl ?_)) | (refine Rc rfl rfl ?_)) <;> (first | (refine Rb rfl rfl (X_load (lB rfl rfl) ?_)) | (refine Rc rfl rfl ?_)) <;> (first | (refine Rb rfl rfl (X_neq rfl rfl (fun _ => ?_) (fun _ => ?_))) | (refine Rc rfl rfl ?_)) <;> (first | (refine Ra rfl (X_pickT rfl rfl ?_)) | (refine Ra rfl (X_pickF rfl rfl ?_))) <;> (refine Ra rfl (X_mv rfl ?_)) <;> (first | (refine Rb rfl rfl (X_faddr rfl ?_)) | (refine Rc rfl rfl ?_)) <;> (first | (refine Rb rfl rfl (X_load (lB rfl rfl) ?_)) | (refine Rc rfl rfl ?_)) <;> (first | (refine Rb rfl rfl (xLen rfl ?_)) | (refine Rc rfl rfl ?_)) <;> (first | (refine Rb rfl rfl (X_faddr rfl ?_)) | (refine Rc rfl rfl ?_)) <;> (first | (refine Rb rfl rfl (X_load (lB rfl rfl) ?_)) | (refine Rc rfl rfl ?_)) <;> (first | (refine Rb rfl rfl (xLen rfl ?_)) | (refine Rc rfl rfl ?_)) <;> (first | (refine Rb rfl rfl (X_neq rfl rfl (fun _ => ?_) (fun _ => ?_))) | (refine Rc rfl rfl ?_)) <;> (first | (refine Ra rfl (X_pickT rfl rfl ?_)) | (refine Ra rfl (X_pickF rfl rfl ?_))) <;> (refine R_nil ?_))) <;> ((refine thenQ_nrm ?_; (refine W_cond rfl (fun ht => ?_) (fun ht => ?_) <;> (first | exact absurd ht (by decide) | (refine W_seq ?_; (refine W_rgn ?_; ((refine Ra rfl (X_mv rfl ?_)) <;> (refine R_nil ?_))) <;> ((refine thenQ_nrm ?_; (refine W_ret ?_)))) | (refine W_skip ?_)))))) <;> (first | refine thenQ_ret ?_ | (refine thenQ_nrm ?_; (refine W_seq ?_; (refine W_seq ?_; (refine W_rgn ?_; ((refine Ra rfl (X_mv rfl ?_)) <;> (refine R_nil ?_))) <;> ((refine thenQ_nrm ?_; (refine W_block ?_; ((
      refine wLoop (fun i : Nat => [(5, .int .i64 i)]) (fun _ => [.box b3 [.int .i64 op2, .int .i64 n2, .int .i64 c2, v2], .box b2 [.int .i64 op, .int .i64 n, .int .i64 c, v]]) (fun i _ => i ≤ ks.length ∧ ∀ j, j < i → (ks.getD j default).er = (ks2.getD j default).er) (fun i => ks.length - i) 0 (by repeat' (first | exact trivial | exact rfl | constructor)) (Upd.done ⟨⟨Nat.zero_le _, fun j hj => absurd hj (by omega)⟩, hB rfl (hB rfl Has.nil)⟩) ?_
      intro i Z1 hz1 hp
      obtain ⟨hi, hp⟩ := hp) <;> (refine W_seq ?_; (refine W_seq ?_; (refine W_rgn ?_; ((refine Ra rfl (X_mv rfl ?_)) <;> (refine Ra rfl (X_faddr rfl ?_)) <;> (refine Ra rfl (X_load (lB rfl rfl) ?_)) <;> (refine Ra rfl (xLen rfl ?_)) <;> (refine Ra rfl (X_lss rfl rfl (fun _ => ?_) (fun _ => ?_))) <;> (refine R_nil ?_))) <;> ((refine thenQ_nrm ?_; (refine W_cond rfl (fun ht => ?_) (fun ht => ?_) <;> (first | exact absurd ht (by decide) | (refine W_skip ?_) | (refine W_exit ?_)))))) <;> (first | refine thenQ_ext ?_ | (refine thenQ_nrm ?_; (refine W_seq ?_; (refine W_block ?_; (refine W_seq ?_; (refine W_drw ?_; ((refine Da rfl rfl (X_faddr rfl ?_)) <;> (refine Da rfl rfl (X_load (lB rfl rfl) ?_)) <;> (refine Da rfl rfl (X_mv rfl ?_)) <;> (refine Da rfl rfl (xIa rfl rfl (by omega) (by omega) ?_)) <;> (refine Da rfl rfl (X_load (lEA rfl (by omega)) ?_)) <;> (refine Da rfl rfl (X_faddr rfl ?_)) <;> (refine Da rfl rfl (X_load (lB rfl rfl) ?_)) <;> (refine Da rfl rfl (X_mv rfl ?_)) <;> (refine Da rfl rfl (xIa rfl rfl (by omega) (by omega) ?_)) <;> (refine Da rfl rfl (X_load (lEA rfl (by omega)) ?_)) <;> (refine Da rfl rfl (xP (ih _ (getD_in (by omega)) (Tr.le ZC.le (hk _ (getD_in (by omega)))) (ks2.getD i default) (Tr.le ZC.le (hk2 _ (getD_in (by omega))))) rfl (fun _ Z51 hz51 hb51 => ?_)); (obtain ⟨b51, rfl, hb51⟩ := hb51; cases b51 <;> simp only [Bool.false_eq_true, false_iff, true_iff] at hb51)) <;> (refine Da rfl rfl (X_not rfl ?_)) <;> (refine D_nil ?_))) <;> ((refine thenQ_nrm ?_; (refine W_cond rfl (fun ht => ?_) (fun ht => ?_) <;> (first | exact absurd ht (by decide) | (refine W_seq ?_; (refine W_rgn ?_; ((refine Ra rfl (X_mv rfl ?_)) <;> (refine R_nil ?_))) <;> ((refine thenQ_nrm ?_; (refine W_ret ?_)))) | (refine W_skip ?_)))))) <;> (first | refine blockQ_nrm ?_ | refine blockQ_ret ?_)) <;> (first | refine thenQ_ret ?_ | (refine thenQ_nrm ?_; (refine W_rgn ?_; ((refine Ra rfl (X_mv rfl ?_)) <;> (refine Ra rfl (X_addI rfl rfl (by omega) (by omega) ?_)) <;> (refine Ra rfl (X_mv rfl ?_)) <;> (refine R_nil ?_))))))))) <;> (first | refine thenQ_ret ?_ | refine thenQ_ext ?_ | (refine thenQ_nrm ?_; (
        refine Upd.done ⟨i + 1, by omega, ⟨by omega, fun j hj => ?_⟩, (by repeat' (first | exact trivial | exact rfl | constructor)), hB rfl (hB rfl Has.nil)⟩
        rcases Nat.lt_or_ge j i with h | h
        · exact hp j h
        · obtain rfl : j = i := by omega
          assumption)))) <;> (first | refine blockQ_ret ?_ | refine blockQ_ext ?_))))) <;> (first | refine thenQ_ret ?_ | (refine thenQ_nrm ?_; (refine W_seq ?_; (refine W_rgn ?_; ((refine Ra rfl (X_mv rfl ?_)) <;> (refine R_nil ?_))) <;> ((refine thenQ_nrm ?_; (refine W_ret ?_)))))))))))))
  <;> (refine fnP_ret (Res.tmp rfl Res.nil) ?_)
  all_goals
    refine ⟨_, rfl, ?_⟩
    rw [er_eq_iff]
    simp only [Bool.false_eq_true, false_iff, true_iff]
    first
      | (rintro ⟨h1, h2, h3, h4, h5⟩
         first
           | (exfalso; omega)
           | exact absurd (h5 i (by omega)) (by assumption))
      | exact ⟨by omega, by omega, by omega, by omega, fun j hj => hp j (by omega)⟩
set_option maxHeartbeats 4000000 in
theorem RMove_ok (lo : Nat) {cp : Int} : ∀ (t : Et) {Z : Vw} (_ : Tr Z t) (_ : t.er.size ≤ 1000000), CallP F lo 27 [.agg ⟨t.cs⟩, .int .i64 cp] Z fun r Z' => ∃ t' : Et, r = .agg ⟨t'.cs⟩ ∧ Tr Z' t' ∧ t'.er = t.er.mov cp := by
  intro t
  induction t using Et.ind with
  | h op n c v ks ih =>
  intro Z ht hs
  rw [Tr_mk] at ht
  obtain ⟨⟨hf, hlen⟩, hk⟩ := ht
  have hEl : (ks.map Et.er).length = ks.length := List.length_map _
  rw [sizeT_mk] at hs
  have hkl : ks.length ≤ 1000000 := by have := Ex.len_le (ks.map Et.er); rw [hEl] at this; omega
  simp only [Et.cs]
  refine FnP (fn := c27) rfl rfl rfl ?_
  (refine W_seq ?_; (refine W_rgn ?_; ((refine Ra rfl (xBox rfl (fun b2 => ?_))) <;> (refine Ra rfl (X_alloc (fun b4 => ?_))) <;> (refine R_nil ?_))) <;> ((refine thenQ_nrm ?_; (refine W_seq ?_; (refine W_rgn ?_; ((refine Ra rfl (X_faddr rfl ?_)) <;> (refine Ra rfl (X_load (lB rfl rfl) ?_)) <;> (refine Ra rfl (X_faddr rfl ?_)) <;> (refine Ra rfl (X_load (lB rfl rfl) ?_)) <;> (refine Ra rfl (X_buildC (pCons rfl (pCons rfl Parts.nil)) rfl ?_)) <;> (refine Ra rfl (X_alloc (fun b5 => ?_))) <;> (refine Rn (xSW rfl rfl rfl rfl ?_)) <;> (refine R_nil ?_))) <;> ((refine thenQ_nrm ?_; (refine W_seq ?_; (refine W_seq ?_; (refine W_rgn ?_; ((refine Ra rfl (X_faddr rfl ?_)) <;> (refine Ra rfl (X_load (lB rfl rfl) ?_)) <;> (refine Ra rfl (X_eql rfl rfl (fun _ => ?_) (fun _ => ?_))) <;> (refine R_nil ?_))) <;> ((refine thenQ_nrm ?_; (refine W_cond rfl (fun ht => ?_) (fun ht => ?_) <;> (first | exact absurd ht (by decide) | (refine W_rgn ?_; ((refine Ra rfl (X_mv rfl ?_)) <;> (refine Ra rfl (X_faddr rfl ?_)) <;> (refine Rn (xSB rfl rfl rfl rfl rfl ?_)) <;> (refine R_nil ?_))) | (refine W_skip ?_)))))) <;> ((refine thenQ_nrm ?_; (refine W_seq ?_; (refine W_seq ?_; (refine W_rgn ?_; ((refine Ra rfl (X_mv rfl ?_)) <;> (refine R_nil ?_))) <;> ((refine thenQ_nrm ?_; (refine W_block ?_; ((
      obtain ⟨c9x, hc9x⟩ : ∃ c9x, c9x = (if op = 1 then cp else 0) := ⟨_, rfl⟩
      refine wLoop (fun (p : Nat × Value × List Et) => match p with | (i, vl, ts) => [(6, .int .i64 i)]) (fun p => match p with | (i, vl, ts) => [.box b5 [.int .i64 op, .int .i64 n, .int .i64 c9x, vl], .box b4 [.int .i64 0, .int .i64 0, .int .i64 0, .slice none 0 0], .box b2 [.int .i64 op, .int .i64 n, .int .i64 c, v], .gro vl 4 (ts.map Et.cs)]) (fun p Zi => match p with | (i, vl, ts) => i ≤ ks.length ∧ ts.length = i ∧ (∀ a ∈ ts, Tr Zi a) ∧ ts.map Et.er = ((ks.map Et.er).take i).map (Ex.mov cp)) (fun p => match p with | (i, _, _) => ks.length - i) (0, .slice none 0 0, []) (by repeat' (first | exact trivial | exact rfl | constructor)) (Upd.gro0 (e := 4) (by decide) (Upd.done ⟨⟨Nat.zero_le _, rfl, fun a ha => absurd ha (by simp), by simp⟩, (hB (by rw [hc9x]; first | (rw [if_pos (by assumption)]; rfl) | (rw [if_neg (by assumption)]; rfl)) (hB rfl (hB rfl (hG rfl Has.nil))))⟩)) ?_
      rintro ⟨i, vl, ts⟩ Z1 hz1 hp
      obtain ⟨hi, htl, htt, hte⟩ : i ≤ ks.length ∧ ts.length = i ∧ (∀ a ∈ ts, Tr Z1 a) ∧ ts.map Et.er = ((ks.map Et.er).take i).map (Ex.mov cp) := hp
      have hsk : i < ks.length → (ks.getD i default).er.size ≤ 1000000 := fun h => (by have := sizeT_get h; omega)) <;> (refine W_seq ?_; (refine W_seq ?_; (refine W_rgn ?_; ((refine Ra rfl (X_mv rfl ?_)) <;> (refine Ra rfl (X_faddr rfl ?_)) <;> (refine Ra rfl (X_load (lB rfl rfl) ?_)) <;> (refine Ra rfl (xLen rfl ?_)) <;> (refine Ra rfl (X_lss rfl rfl (fun _ => ?_) (fun _ => ?_))) <;> (refine R_nil ?_))) <;> ((refine thenQ_nrm ?_; (refine W_cond rfl (fun ht => ?_) (fun ht => ?_) <;> (first | exact absurd ht (by decide) | (refine W_skip ?_) | (refine W_exit ?_)))))) <;> (first | refine thenQ_ext ?_ | (refine thenQ_nrm ?_; (refine W_seq ?_; (refine W_block ?_; (refine W_drw ?_; ((refine Da rfl rfl (X_faddr rfl ?_)) <;> (refine Da rfl rfl (X_load (lB rfl rfl) ?_)) <;> (refine Da rfl rfl (X_faddr rfl ?_)) <;> (refine Da rfl rfl (X_load (lB rfl rfl) ?_)) <;> (refine Da rfl rfl (X_mv rfl ?_)) <;> (refine Da rfl rfl (xIa rfl rfl (by omega) (by omega) ?_)) <;> (refine Da rfl rfl (X_load (lEA rfl (by omega)) ?_)) <;> (refine Da rfl rfl (X_mv rfl ?_)) <;> (refine D_consR rfl (S_do rfl (xP (ih _ (getD_in (by omega)) (Tr.le ZC.le (hk _ (getD_in (by omega)))) (hsk (by omega))) rfl (fun r32 Z32 hz32 hq => ⟨(by (refine rDo rfl rfl (lB rfl rfl) ?_); exact Rck_nil), ?_⟩))); (obtain ⟨⟨o9, n9, c9, v9, ks9⟩, rfl, ht9, he9⟩ := hq)) <;> (refine Da rfl rfl (X_bsliceC (pCons rfl Parts.nil) rfl rfl rfl (fun v33 => ?_))) <;> (refine Da rfl rfl (xApGm (fe := Et.cs) (.mk o9 n9 c9 v9 ks9) rfl rfl rfl (by omega) (fun v34 => ?_))) <;> (refine Da rfl rfl (X_faddr rfl ?_)) <;> (refine Dn rfl (xSB rfl rfl rfl rfl rfl ?_)) <;> (refine D_nil ?_))) <;> (refine blockQ_nrm ?_)) <;> ((refine thenQ_nrm ?_; (refine W_rgn ?_; ((refine Ra rfl (X_mv rfl ?_)) <;> (refine Ra rfl (X_addI rfl rfl (by omega) (by omega) ?_)) <;> (refine Ra rfl (X_mv rfl ?_)) <;> (refine R_nil ?_))))))))) <;> (first | refine thenQ_ext ?_ | (refine thenQ_nrm ?_; (
        refine Upd.done ⟨(i + 1, _, ts ++ [.mk o9 n9 c9 v9 ks9]), ?_, ⟨?_, ?_, ?_, ?_⟩, (by repeat' (first | exact trivial | exact rfl | constructor)), (hB rfl (hB rfl (hB rfl (hG rfl Has.nil))))⟩
        · show ks.length - (i + 1) < ks.length - i
          omega
        · show i + 1 ≤ ks.length
          omega
        · rw [List.length_append, htl]; rfl
        · intro a ha
          rcases List.mem_append.1 ha with h | h
          · exact (htt a h).le ZC.le
          · rw [List.mem_singleton.1 h]; exact ht9.le ZC.le
        · rw [List.map_append, hte, take_snoc (by rw [hEl]; omega), List.map_append, map_get (by omega)]
          show _ ++ [(Et.mk o9 n9 c9 v9 ks9).er] = _
          rw [he9]; rfl)))) <;> (refine blockQ_ext ?_))))) <;> ((refine thenQ_nrm ?_; (refine W_seq ?_; (refine W_rgn ?_; ((refine Ra rfl (X_load (lBA rfl rfl) ?_)) <;> (refine Rn (xSW rfl rfl rfl rfl ?_)) <;> (refine R_nil ?_))) <;> ((refine thenQ_nrm ?_; (refine W_ret ?_))))))))))))))))
  <;> (refine fn_ret (rA rfl rfl Res.nil) ?_)
  all_goals
    have hi2 : i = ks.length := by omega
    subst hi2
    dsimp only [tupled]
    refine uG vl fun Za hza hfa => Upd.nil ⟨rfl, .mk op n c9x vl ts, rfl, ?_, ?_⟩
    · exact Tr_mk.2 ⟨⟨hfa, by omega⟩, fun a ha => (htt a ha).le ZC.le⟩
    · rw [Et.er_mk, Et.er_mk, Ex.mov_mk, hte, List.take_of_length_le (by rw [hEl]; exact Nat.le_refl _)]
      first
        | (rw [hc9x]; done)
        | (rw [if_neg (by assumption)]; done)
        | (rw [if_neg (by assumption), hc0 (by assumption)]; done)
end Go.Proofs.Ytlidnionbofkaaa.Hm.V
