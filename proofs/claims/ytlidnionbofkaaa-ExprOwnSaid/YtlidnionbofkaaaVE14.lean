/- ExprCopies, run by H. -/
import Derived.Test.YtlidnionbofkaaaHF
import Derived.Test.YtlidnionbofkaaaA6
import Derived.Test.YtlidnionbofkaaaVE13
import Derived.Test.YtlidnionbofkaaaVX1
namespace Go.Proofs.Ytlidnionbofkaaa.Hm.V
open Go
set_option linter.all false
set_option maxRecDepth 100000
attribute [local irreducible] X S R D W Call Upd Rds Rck Sees Res Cel CallP fnQ
theorem sizeL_map {f : Ex → Ex} : ∀ {ks : List Ex}, (∀ a ∈ ks, (f a).size = a.size) → Ex.sizeL (ks.map f) = Ex.sizeL ks
  | [], _ => rfl
  | a :: ks, h => by rw [List.map_cons, Ex.sizeL, Ex.sizeL, h a (by simp), sizeL_map fun b hb => h b (by simp [hb])]
theorem depthL_map {f : Ex → Ex} : ∀ {ks : List Ex}, (∀ a ∈ ks, (f a).depth = a.depth) → Ex.depthL (ks.map f) = Ex.depthL ks
  | [], _ => rfl
  | a :: ks, h => by rw [List.map_cons, Ex.depthL, Ex.depthL, h a (by simp), depthL_map fun b hb => h b (by simp [hb])]
theorem mov_size {cp : Int} (e : Ex) : (e.mov cp).size = e.size := by
  induction e using Ex.ind with
  | h op n c ks ih => rw [Ex.mov_mk, Ex.size, Ex.size, sizeL_map ih]
theorem mov_depth {cp : Int} (e : Ex) : (e.mov cp).depth = e.depth := by
  induction e using Ex.ind with
  | h op n c ks ih => rw [Ex.mov_mk, Ex.depth, Ex.depth, depthL_map ih]
theorem mov_form {w : Int} {vs : List Vr} {k cp : Int} (h0 : 0 ≤ cp) (h1 : cp < k) (e : Ex) : formE w vs 1 e → formE w vs k (e.mov cp) := by
  induction e using Ex.ind with
  | h op n c ks ih =>
    rw [Ex.mov_mk, formE_mk, formE_mk, List.length_map]
    rintro ⟨hn, hk⟩
    refine ⟨?_, fun i hi => by rw [map_get hi]; exact ih _ (getD_in hi) (hk i hi)⟩
    by_cases h : op = 1
    · rw [if_pos h, nodeP_1 h]
      obtain ⟨e1, e2, e3, e4, e5⟩ := (nodeP_1 h).1 hn
      exact ⟨e1, e2, h0, h1, e5⟩
    · rw [if_neg h, nodeP_ne h]
      exact ⟨rfl, ((nodeP_ne h).1 hn).2⟩
theorem mov_val {w : Int} {vs : List Vr} {sts : List (List Int)} {cp : Int} (e : Ex) : formE w vs 1 e → valE w vs sts (e.mov cp) = valE w vs [sts.getD cp.toNat default] e := by
  induction e using Ex.ind with
  | h op n c ks ih =>
    rw [formE_mk]
    rintro ⟨hn, hk⟩
    rw [Ex.mov_mk, valE_mk, valE_mk, List.map_map]
    have hm : ks.map (valE w vs sts ∘ Ex.mov cp) = ks.map (valE w vs [sts.getD cp.toNat default]) := List.map_congr_left fun a ha => by
      obtain ⟨i, hi, rfl⟩ := List.getElem_of_mem ha
      have q := hk i hi
      rw [getD_eq hi] at q
      exact ih _ ha q
    rw [hm]
    unfold nodeV
    by_cases h : op = 1
    · obtain ⟨e1, e2, e3, e4, e5⟩ := (nodeP_1 h).1 hn
      obtain rfl : c = 0 := by omega
      rw [if_neg (show ¬ op = 0 by omega), if_neg (show ¬ op = 0 by omega), if_pos h, if_pos h, if_pos h]
      rfl
    · rw [if_neg h, if_neg h]
theorem mvP_ok {w : Int} {vs : List Vr} {e x : Ex} {cp c : Int} (hH : headP w vs) (h0 : 0 ≤ cp) (h3 : cp < 3) (hI : isE w vs 1 e) (h : mvP w vs e cp x c) : c = 0 ∧ x = e.mov cp := by
  rcases h with ⟨_, _, h⟩ | ⟨_, _, _, h⟩ | ⟨h1, h2, _⟩
  · exact absurd ⟨hH, h0, h3⟩ h
  · exact absurd hI h
  · exact ⟨h1, h2⟩
theorem valP_ok {w : Int} {vs : List Vr} {rs : List Rw} {e : Ex} {x c : Int} (hs : stoP w vs rs) (hI : isE w vs rs.length e) (h : valP w vs rs e x c) : c = 0 ∧ x = valE w vs (rwL rs) e := by
  rcases h with ⟨_, _, h⟩ | ⟨_, _, _, h⟩ | ⟨h1, h2, _⟩
  · exact absurd hs h
  · exact absurd hI h
  · exact ⟨h1, h2⟩
theorem mov_isE {w : Int} {vs : List Vr} {k cp : Int} {e : Ex} (h0 : 0 ≤ cp) (h1 : cp < k) (h : isE w vs 1 e) : isE w vs k (e.mov cp) := ⟨by rw [mov_size]; exact h.1, by rw [mov_depth]; exact h.2.1, mov_form h0 h1 e h.2.2⟩
/-- One store of a list of stores. -/
abbrev one (rs : List Rw) (i : Nat) : List Rw := [rs.getD i default]
theorem one_ok {Z : Vw} {rs : List Rw} {i : Nat} (hi : i < rs.length) (h : RwOK Z rs) : RwOK Z (one rs i) := fun j hj => by
  obtain rfl : j = 0 := by simp at hj; omega
  exact h i hi
theorem one_sto {w : Int} {vs : List Vr} {rs : List Rw} {i : Nat} (hi : i < rs.length) (hH : headP w vs) (h : ∀ i, i < rs.length → storeP w vs (rs.getD i default).l) : stoP w vs (one rs i) := ⟨hH, by simp, by simp, fun j hj => by
  obtain rfl : j = 0 := by simp at hj; omega
  exact h i hi⟩
set_option maxHeartbeats 4000000 in
theorem ExprCopies_ok (lo : Nat) {Z : Vw} {w : Int} {vv vst : Value} {vs : List Vr} {rs : List Rw} {t : Et} (hvl : vs.length < 9223372036854775808) (hnm : ∀ i, i < vs.length → (vs.getD i default).nm.length < 9223372036854775808) (hv : Vrs Z vv vs) (hsv : Fz Z 1 vst (rs.map Rw.c)) (hrk : RwOK Z rs) (hrl : rs.length < 9223372036854775808) (htr : Tr Z t) {cp : Int} : CallP F lo 8 [.int .i64 w, vv, vst, .agg ⟨t.cs⟩, .int .i64 cp] Z fun r _ => r = .bool true := by
  refine FnP (fn := c8) rfl rfl rfl ?_
  (refine W_seq ?_; (refine W_rgn ?_; ((refine Ra rfl (xBox rfl (fun b8 => ?_))) <;> (refine Ra rfl (X_mv rfl ?_)) <;> (refine R_nil ?_))) <;> ((refine thenQ_nrm ?_; (refine W_seq ?_; (refine W_seq ?_; (refine W_rgn ?_; ((refine Ra rfl (X_mv rfl ?_)) <;> (refine Ra rfl (xLen rfl ?_)) <;> (refine Ra rfl (X_gtr rfl rfl (fun _ => ?_) (fun _ => ?_))) <;> (refine Ra rfl (X_mv rfl ?_)) <;> (first | (refine Rb rfl rfl (X_mv rfl ?_)) | (refine Rc rfl rfl ?_)) <;> (first | (refine Rb rfl rfl (X_lss rfl rfl (fun _ => ?_) (fun _ => ?_))) | (refine Rc rfl rfl ?_)) <;> (first | (refine Ra rfl (X_pickT rfl rfl ?_)) | (refine Ra rfl (X_pickF rfl rfl ?_))) <;> (refine Ra rfl (X_mv rfl ?_)) <;> (first | (refine Rb rfl rfl (X_mv rfl ?_)) | (refine Rc rfl rfl ?_)) <;> (first | (refine Rb rfl rfl (X_mv rfl ?_)) | (refine Rc rfl rfl ?_)) <;> (first | (refine Rb rfl rfl (xLen rfl ?_)) | (refine Rc rfl rfl ?_)) <;> (first | (refine Rb rfl rfl (X_geq rfl rfl (fun _ => ?_) (fun _ => ?_))) | (refine Rc rfl rfl ?_)) <;> (first | (refine Ra rfl (X_pickT rfl rfl ?_)) | (refine Ra rfl (X_pickF rfl rfl ?_))) <;> (refine Ra rfl (X_mv rfl ?_)) <;> (first | (refine Rb rfl rfl (X_mv rfl ?_)) | (refine Rc rfl rfl ?_)) <;> (first | (refine Rb rfl rfl (X_mv rfl ?_)) | (refine Rc rfl rfl ?_)) <;> (first | (refine Rb rfl rfl (xP (RHeading_ok lo (vs := vs) _ (by assumption) (by assumption)) rfl (fun _ Z33 hz33 hb33 => ?_)); (obtain ⟨b33, rfl, hb33⟩ := hb33; cases b33 <;> simp only [Bool.false_eq_true, false_iff, true_iff] at hb33)) | (refine Rc rfl rfl ?_)) <;> (first | (refine Rb rfl rfl (X_not rfl ?_)) | (refine Rc rfl rfl ?_)) <;> (first | (refine Ra rfl (X_pickT rfl rfl ?_)) | (refine Ra rfl (X_pickF rfl rfl ?_))) <;> (refine Ra rfl (X_mv rfl ?_)) <;> (first | (refine Rb rfl rfl (X_mv rfl ?_)) | (refine Rc rfl rfl ?_)) <;> (first | (refine Rb rfl rfl (xLen rfl ?_)) | (refine Rc rfl rfl ?_)) <;> (first | (refine Rb rfl rfl (X_gtr rfl rfl (fun _ => ?_) (fun _ => ?_))) | (refine Rc rfl rfl ?_)) <;> (first | (refine Ra rfl (X_pickT rfl rfl ?_)) | (refine Ra rfl (X_pickF rfl rfl ?_))) <;> (refine Ra rfl (X_mv rfl ?_)) <;> (first | (refine Rb rfl rfl (X_mv rfl ?_)) | (refine Rc rfl rfl ?_)) <;> (first | (refine Rb rfl rfl (X_mv rfl ?_)) | (refine Rc rfl rfl ?_)) <;> (first | (refine Rb rfl rfl (X_mv rfl ?_)) | (refine Rc rfl rfl ?_)) <;> (first | (refine Rb rfl rfl (xP (RStores_ok lo (by assumption) (Fz.le hv ZC.le) (Fz.le hsv ZC.le) (hrk.le ZC.le) hrl) rfl (fun _ Z45 hz45 hb45 => ?_)); (obtain ⟨b45, rfl, hb45⟩ := hb45; cases b45 <;> simp only [Bool.false_eq_true, false_iff, true_iff] at hb45)) | (refine Rc rfl rfl ?_)) <;> (first | (refine Rb rfl rfl (X_not rfl ?_)) | (refine Rc rfl rfl ?_)) <;> (first | (refine Ra rfl (X_pickT rfl rfl ?_)) | (refine Ra rfl (X_pickF rfl rfl ?_))) <;> (refine Ra rfl (X_mv rfl ?_)) <;> (first | (refine Rb rfl rfl (X_mv rfl ?_)) | (refine Rc rfl rfl ?_)) <;> (first | (refine Rb rfl rfl (X_mv rfl ?_)) | (refine Rc rfl rfl ?_)) <;> (first | (refine Rb rfl rfl (X_load (lBA rfl (Et.b4 _)) ?_)) | (refine Rc rfl rfl ?_)) <;> (first | (refine Rb rfl rfl (xP (Is_ok lo (by assumption) (by first | assumption | exact Fz.le (by assumption) ZC.le) (by first | assumption | exact Tr.le ZC.le (by assumption))) rfl (fun _ Z52 hz52 hb52 => ?_)); (obtain ⟨b52, rfl, hb52⟩ := hb52; cases b52 <;> simp only [Bool.false_eq_true, false_iff, true_iff] at hb52)) | (refine Rc rfl rfl ?_)) <;> (first | (refine Rb rfl rfl (X_not rfl ?_)) | (refine Rc rfl rfl ?_)) <;> (first | (refine Ra rfl (X_pickT rfl rfl ?_)) | (refine Ra rfl (X_pickF rfl rfl ?_))) <;> (refine R_nil ?_))) <;> ((refine thenQ_nrm ?_; (refine W_cond rfl (fun ht => ?_) (fun ht => ?_) <;> (first | exact absurd ht (by decide) | (refine W_seq ?_; (refine W_rgn ?_; ((refine Ra rfl (xP (CallP_true (Q := fun v _ => v = .bool true) rfl rfl) rfl (fun _ Z55 hz55 hq => ?_)); (subst hq)) <;> (refine Ra rfl (X_mv rfl ?_)) <;> (refine R_nil ?_))) <;> ((refine thenQ_nrm ?_; (refine W_ret ?_)))) | (refine W_skip ?_)))))) <;> (first | refine thenQ_ret ?_ | (refine thenQ_nrm ?_; (refine W_seq ?_; (refine W_rgn ?_; ((refine Ra rfl (X_mv rfl ?_)) <;> (refine Ra rfl (X_mv rfl ?_)) <;> (refine Ra rfl (X_load (lBA rfl (Et.b4 _)) ?_)) <;> (refine Ra rfl (X_mv rfl ?_)) <;> (refine Ra rfl (xP (Move_ok lo (by assumption) (by assumption) (Fz.le hv ZC.le) (by first | assumption | exact Tr.le ZC.le (by assumption))) rfl (fun r61 Z61 hz61 hq => ?_)); (obtain ⟨⟨o8, n8, c8, v8, ks8⟩, e8, rfl, ht8, hm8⟩ := hq; have hf8 := (Tr_mk.1 ht8).1.1; obtain ⟨rfl, he8⟩ := mvP_ok hb33 (by omega) (by omega) hb52 hm8)) <;> (refine Ra rfl (X_mv rfl ?_)) <;> (refine Ra rfl (X_extract rfl rfl ?_)) <;> (refine Ra rfl (X_extract rfl rfl ?_)) <;> (refine Ra rfl (X_alloc (fun b11 => ?_))) <;> (refine Rn (xSW rfl rfl rfl rfl ?_)) <;> (refine Ra rfl (X_mv rfl ?_)) <;> (refine R_nil ?_))) <;> ((refine thenQ_nrm ?_; (refine W_seq ?_; (refine W_rgn ?_; ((refine Ra rfl (X_mv rfl ?_)) <;> (refine Ra rfl (X_mv rfl ?_)) <;> (refine Ra rfl (X_mv rfl ?_)) <;> (refine Ra rfl (X_load (lBA rfl (Et.b4 _)) ?_)) <;> (refine Ra rfl (xP (Value_ok lo (t := .mk o8 n8 c8 v8 ks8) hvl hnm (Fz.le hv ZC.le) (Fz.le hsv ZC.le) (hrk.le ZC.le) hrl (Tr.le ZC.le ht8)) rfl (fun r69 Z69 hz69 hq => ?_)); (obtain ⟨x69, e69, rfl, hq⟩ := hq; obtain ⟨rfl, rfl⟩ := valP_ok ⟨hb33, by omega, by omega, hb45⟩ (by rw [he8]; exact mov_isE (by omega) (by omega) hb52) hq)) <;> (refine Ra rfl (X_mv rfl ?_)) <;> (refine Ra rfl (X_extract rfl rfl ?_)) <;> (refine Ra rfl (X_extract rfl rfl ?_)) <;> (refine Ra rfl (X_mv rfl ?_)) <;> (refine Ra rfl (X_mv rfl ?_)) <;> (refine R_nil ?_))) <;> ((refine thenQ_nrm ?_; (refine W_seq ?_; (refine W_drw ?_; ((refine Da rfl rfl (X_mv rfl ?_)) <;> (refine Da rfl rfl (X_mv rfl ?_)) <;> (refine Da rfl rfl (X_mv rfl ?_)) <;> (refine Da rfl rfl (X_mv rfl ?_)) <;> (refine Da rfl rfl (xIa rfl rfl (by omega) (by omega) ?_)) <;> (refine Da rfl rfl (X_load (lE0 rfl (by omega) rfl) ?_); (have hfc := (hrk cp.toNat (by omega)).1)) <;> (refine Da rfl rfl (X_bsliceC (pCons rfl Parts.nil) rfl rfl rfl (fun v79 => ?_))) <;> (refine Da rfl rfl (X_load (lBA rfl (Et.b4 _)) ?_)) <;> (refine Da rfl rfl (X_upd ?_); (refine uA v79 fun Zg hzg hfg => ?_; refine Upd.done ?_; refine xP (Value_ok lo (rs := one rs cp.toNat) (t := t) hvl hnm (Fz.le hv ZC.le) hfg (one_ok (by omega) (hrk.le ZC.le)) (by simp) (Tr.le ZC.le htr)) rfl (fun r81 Z81 hz81 hq => ?_); obtain ⟨x81, e81, rfl, hq⟩ := hq; obtain ⟨rfl, rfl⟩ := valP_ok (one_sto (by omega) hb33 hb45) hb52 hq)) <;> (refine Da rfl rfl (X_mv rfl ?_)) <;> (refine Da rfl rfl (X_extract rfl rfl ?_)) <;> (refine Da rfl rfl (X_extract rfl rfl ?_)) <;> (refine Da rfl rfl (X_mv rfl ?_)) <;> (refine Da rfl rfl (X_mv rfl ?_)) <;> (refine D_nil ?_))) <;> ((refine thenQ_nrm ?_; (refine W_seq ?_; (refine W_rgn ?_; ((refine Ra rfl (X_mv rfl ?_)) <;> (refine Ra rfl (X_bin (v := .bool true) rfl rfl rfl ?_)) <;> (refine Ra rfl (X_mv rfl ?_)) <;> (refine Rb rfl rfl (X_mv rfl ?_)) <;> (refine Rb rfl rfl (X_bin (v := .bool true) rfl rfl rfl ?_)) <;> (refine Ra rfl (X_pickT rfl rfl ?_)) <;> (refine Ra rfl (X_mv rfl ?_)) <;> (refine Rb rfl rfl (X_mv rfl ?_)) <;> (refine Rb rfl rfl (X_bin (v := .bool true) rfl rfl rfl ?_)) <;> (refine Ra rfl (X_pickT rfl rfl ?_)) <;> (refine Ra rfl (X_mv rfl ?_)) <;> (refine Rb rfl rfl (X_mv rfl ?_)) <;> (refine Rb rfl rfl (X_mv rfl ?_)) <;> (refine Rb rfl rfl (X_eql rfl rfl (fun _ => ?_) (fun _ => ?_))) <;> (refine Ra rfl (X_pickT rfl rfl ?_)) <;> (refine Ra rfl (X_mv rfl ?_)) <;> (first | (refine Rb rfl rfl (xP (CallP_true (Q := fun v _ => v = .bool true) rfl rfl) rfl (fun _ Z100 hz100 hq => ?_)); (subst hq)) | (refine Rc rfl rfl ?_)) <;> (first | (refine Ra rfl (X_pickT rfl rfl ?_)) | (refine Ra rfl (X_pickF rfl rfl ?_))) <;> (refine Ra rfl (X_mv rfl ?_)) <;> (refine R_nil ?_))) <;> ((refine thenQ_nrm ?_; (refine W_ret ?_)))))))))))))))))))
  <;> (refine fnP_ret (Res.tmp rfl Res.nil) ?_)
  all_goals
    first
      | rfl
      | (exfalso; omega)
      | (exfalso
         rename_i hne
         refine hne ?_
         rw [he8, mov_val _ hb52.2.2, rwL_get (by omega)]
         rfl)
end Go.Proofs.Ytlidnionbofkaaa.Hm.V
