/- The program's Look. -/
import Derived.Test.YtlidnionbofkaaaHF
import Derived.Test.YtlidnionbofkaaaA6
import Derived.Test.YtlidnionbofkaaaVE14
namespace Go.Proofs.Ytlidnionbofkaaa.Hm.V
open Go
set_option linter.all false
set_option maxRecDepth 100000
attribute [local irreducible] X S R D W Call Upd Rds Rck Sees Res Cel CallP fnQ
def cE (p : Int × Int) : List Value := [.int .i64 1, .int .i64 p.1, .int .i64 p.2]
/-- One store as a list of stores. -/
abbrev row (v : Value) (l : List Int) : List Rw := [⟨v, l⟩]
theorem row_sto {w : Int} {vs : List Vr} {v : Value} {l : List Int} (h : storeP w vs l) : ∀ i, i < (row v l).length → storeP w vs ((row v l).getD i default).l := fun j hj => by
  obtain rfl : j = 0 := by simp at hj; omega
  exact h
theorem row_ok {Z : Vw} {v : Value} {l : List Int} (h : Fz Z 1 v (l.map cI)) (hl : l.length < 9223372036854775808) : RwOK Z (row v l) := fun j hj => by
  obtain rfl : j = 0 := by simp at hj; omega
  exact ⟨h, hl⟩
theorem row_iff {w : Int} {vs : List Vr} {v : Value} {l : List Int} : stoP w vs (row v l) ↔ headP w vs ∧ storeP w vs l := ⟨fun h => ⟨h.1, h.2.2.2 0 (by simp)⟩, fun h => ⟨h.1, by simp, by simp, row_sto h.2⟩⟩
def lookP (w : Int) (vs : List Vr) (l : List Int) (e : Ex) (x : Int) (evs : List (Int × Int)) (c : Int) : Prop := (c = 1 ∧ x = 0 ∧ evs = [] ∧ ¬ (headP w vs ∧ storeP w vs l)) ∨ (c = 20 ∧ x = 0 ∧ evs = [] ∧ (headP w vs ∧ storeP w vs l) ∧ ¬ isE w vs 1 e) ∨ (c = 0 ∧ x = valE w vs [l] e ∧ evs = evsE w vs [l] e ∧ (headP w vs ∧ storeP w vs l) ∧ isE w vs 1 e)
def vldP (w : Int) (vs : List Vr) (rs : List Rw) (e : Ex) (c : Int) : Prop := (c = 0 ∧ stoP w vs rs ∧ isE w vs rs.length e) ∨ (c = 1 ∧ ¬ stoP w vs rs) ∨ (c = 20 ∧ stoP w vs rs ∧ ¬ isE w vs rs.length e)
theorem arrE_le : ∀ e : Ex, arrE e ≤ e.size := by
  intro e
  induction e using Ex.ind with
  | h op n c ks ih =>
    have key : ∀ l : List Ex, (∀ a ∈ l, a ∈ ks) → arrL l ≤ Ex.sizeL l := by
      intro l
      induction l with
      | nil => intro _; simp [arrL, Ex.sizeL]
      | cons a l ihl =>
        intro h
        have h1 := ih a (h a (by simp))
        have h2 := ihl fun b hb => h b (by simp [hb])
        rw [arrL, Ex.sizeL]
        omega
    have := key ks fun a ha => ha
    rw [arrE, Ex.size]
    split <;> omega
theorem arrL_le : ∀ l : List Ex, arrL l ≤ Ex.sizeL l
  | [] => by simp [arrL, Ex.sizeL]
  | a :: l => by have h1 := arrE_le a; have h2 := arrL_le l; rw [arrL, Ex.sizeL]; omega
theorem arrT_take {ks : List Et} {i : Nat} (h : i < ks.length) : arrL ((ks.map Et.er).take (i + 1)) = arrL ((ks.map Et.er).take i) + arrE (ks.getD i default).er := by
  rw [arrL_take (by simpa using h), map_get h]
theorem arrT_all {ks : List Et} : arrL ((ks.map Et.er).take ks.length) = arrL (ks.map Et.er) := by rw [List.take_of_length_le (by simp)]
theorem arrT_mk {op n c : Int} {v : Value} {ks : List Et} : arrE (Et.mk op n c v ks).er = (if op = 1 ∧ 0 < ks.length then 1 else 0) + arrL (ks.map Et.er) := by rw [Et.er_mk, arrE, List.length_map]
theorem evs_arr {w : Int} {vs : List Vr} {sts : List (List Int)} : ∀ e : Ex, (evsE w vs sts e).length = arrE e := by
  intro e
  induction e using Ex.ind with
  | h op n c ks ih =>
    have key : ∀ l : List Ex, (∀ a ∈ l, a ∈ ks) → (evsL w vs sts l).length = arrL l := by
      intro l
      induction l with
      | nil => intro _; simp [evsL, arrL]
      | cons a l ihl =>
        intro h
        rw [evsL, arrL, List.length_append, ih a (h a (by simp)), ihl fun b hb => h b (by simp [hb])]
    rw [evsE, arrE, List.length_append, key ks fun a ha => ha]
    split <;> simp <;> omega
theorem evs_in {w : Int} {vs : List Vr} {sts : List (List Int)} {k : Int} (hH : headP w vs) : ∀ e : Ex, formE w vs k e → ∀ p ∈ evsE w vs sts e, 0 ≤ p.1 ∧ p.1 < vs.length ∧ 2 ≤ (vs.getD p.1.toNat default).cs ∧ 0 ≤ p.2 ∧ p.2 < (vs.getD p.1.toNat default).cs := by
  intro e
  induction e using Ex.ind with
  | h op n c ks ih =>
    rw [formE_mk]
    rintro ⟨hn, hk⟩ p hp
    have key : ∀ l : List Ex, (∀ a ∈ l, a ∈ ks) → p ∈ evsL w vs sts l → ∃ a ∈ ks, p ∈ evsE w vs sts a := by
      intro l
      induction l with
      | nil => intro _ h; simp [evsL] at h
      | cons a l ihl =>
        intro h h2
        rw [evsL] at h2
        rcases List.mem_append.1 h2 with h3 | h3
        · exact ⟨a, h a (by simp), h3⟩
        · exact ihl (fun b hb => h b (by simp [hb])) h3
    rw [evsE] at hp
    rcases List.mem_append.1 hp with h | h
    · obtain ⟨a, ha, hp2⟩ := key ks (fun a ha => ha) h
      obtain ⟨i, hi, rfl⟩ := List.getElem_of_mem ha
      have q := hk i hi
      rw [getD_eq hi] at q
      exact ih _ ha q p hp2
    · by_cases h2 : op = 1 ∧ 0 < ks.length
      · rw [if_pos h2] at h
        obtain rfl := List.mem_singleton.1 h
        obtain ⟨e1, e2, e3, e4, e5⟩ := (nodeP_1 h2.1).1 hn
        obtain ⟨_, _, _, _, _, _, q7, q8⟩ := cell_in hH (i := (valL w vs sts ks).getD 0 default) e1 e2
        refine ⟨e1, e2, ?_, q7, q8⟩
        show 2 ≤ (vs.getD n.toNat default).cs
        split at e5
        · omega
        · omega
      · rw [if_neg h2] at h
        exact absurd h (by simp)
set_option maxHeartbeats 4000000 in
theorem Look1_ok (lo : Nat) {Z : Vw} {b : Nat} {vl : Value} {l : List (Int × Int)} (x y : Int) (hl : l.length < 100000) : Call F lo 52 [.int .i64 x, .int .i64 y, .pointer (some ⟨b, 0, none⟩)] Z [.box b [vl], .gro vl 3 (l.map cE)] fun _ _ O' => ∃ v', O' = [.box b [v'], .gro v' 3 ((l ++ [(x, y)]).map cE)] := by
  refine Fn (fn := c52) rfl rfl rfl ?_
  (refine W_rgn ?_; ((refine Ra rfl (X_load (lB rfl rfl) ?_)) <;> (refine Ra rfl (X_mv rfl ?_)) <;> (refine Ra rfl (X_mv rfl ?_)) <;> (refine Ra rfl (X_buildC (pCons rfl (pCons rfl (pCons rfl Parts.nil))) rfl ?_)) <;> (refine Ra rfl (X_bsliceC (pCons rfl Parts.nil) rfl rfl rfl (fun v9 => ?_))) <;> (refine Ra rfl (xApGm (fe := cE) (x, y) rfl rfl rfl (by omega) (fun v10 => ?_))) <;> (refine Rn (xSW rfl rfl rfl rfl ?_)) <;> (refine R_nil ?_)))
  <;> (refine fn_nrm Res.nil ?_)
  all_goals exact Upd.has (L := [.box b [v10], .gro v10 3 ((l ++ [(x, y)]).map cE)]) (hB rfl (hG rfl Has.nil)) ⟨_, rfl⟩
theorem see_look (lo b : Nat) (Z0 : Vw) : SeeOK (S := Value) F lo 52 [.pointer (some ⟨b, 0, none⟩)] (fun vl evs => [.box b [vl], .gro vl 3 (evs.map cE)]) Z0 := fun Z _ vl evs x y he => (Look1_ok lo x y he).mono fun _ _ _ _ h => h
set_option maxHeartbeats 4000000 in
theorem Look_ok (lo : Nat) {Z : Vw} {w : Int} {vv vst : Value} {vs : List Vr} {l : List Int} {t : Et} (hvl : vs.length < 9223372036854775808) (hnm : ∀ i, i < vs.length → (vs.getD i default).nm.length < 9223372036854775808) (hv : Vrs Z vv vs) (hst : Fz Z 1 vst (l.map cI)) (hll : l.length < 9223372036854775808) (htr : Tr Z t) : CallP F lo 20 [.int .i64 w, vv, vst, .agg ⟨t.cs⟩] Z fun r Z' => ∃ (x : Int) (vl : Value) (evs : List (Int × Int)) (c : Int), r = .tuple ⟨[.int .i64 x, vl, .int .i64 c]⟩ ∧ Fz Z' 3 vl (evs.map cE) ∧ lookP w vs l t.er x evs c := by
  refine FnP (fn := c20) rfl rfl rfl ?_
  (refine W_seq ?_; (refine W_rgn ?_; ((refine Ra rfl (xBox rfl (fun b7 => ?_))) <;> (refine Ra rfl (X_mv rfl ?_)) <;> (refine Ra rfl (X_mv rfl ?_)) <;> (refine Ra rfl (X_mv rfl ?_)) <;> (refine R_nil ?_))) <;> ((refine thenQ_nrm ?_; (refine W_seq ?_; (refine W_rgn ?_; ((refine Ra rfl (X_mv rfl ?_)) <;> (refine Ra rfl (X_mv rfl ?_)) <;> (refine Ra rfl (X_buildC (pCons rfl (pCons rfl (pCons rfl Parts.nil))) rfl ?_)) <;> (refine Ra rfl (X_alloc (fun b11 => ?_))) <;> (refine Rn (xSW rfl rfl rfl rfl ?_)) <;> (refine R_nil ?_))) <;> ((refine thenQ_nrm ?_; (refine W_seq ?_; (refine W_seq ?_; (refine W_rgn ?_; ((refine Ra rfl (X_mv rfl ?_)) <;> (refine Ra rfl (X_mv rfl ?_)) <;> (refine Ra rfl (xP (Heading_ok lo (vs := vs) w (by assumption) (by assumption)) rfl (fun _ Z20 hz20 hq => ?_)); (obtain ⟨e20, rfl, hq20⟩ := hq; rcases hq20 with ⟨rfl, hH⟩ | ⟨rfl, hH⟩)) <;> (first | (refine Ra rfl (X_bin (v := .bool true) rfl rfl rfl ?_)) | (refine Ra rfl (X_bin (v := .bool false) rfl rfl rfl ?_))) <;> (refine Ra rfl (X_mv rfl ?_)) <;> (first | (refine Rb rfl rfl (X_load (lBA rfl rfl) ?_)) | (refine Rc rfl rfl ?_)) <;> (first | (refine Rb rfl rfl (X_mv rfl ?_)) | (refine Rc rfl rfl ?_)) <;> (first | (refine Rb rfl rfl (xP (isStore_ok lo (l := l) hH (Fz.le hv ZC.le) (hl := ⟨Fz.le hst ZC.le⟩) hll) rfl (fun _ Z25 hz25 hb25 => ?_)); (obtain ⟨b25, rfl, hb25⟩ := hb25; cases b25 <;> simp only [Bool.false_eq_true, false_iff, true_iff] at hb25)) | (refine Rc rfl rfl ?_)) <;> (first | (refine Rb rfl rfl (X_not rfl ?_)) | (refine Rc rfl rfl ?_)) <;> (first | (refine Ra rfl (X_pickT rfl rfl ?_)) | (refine Ra rfl (X_pickF rfl rfl ?_))) <;> (refine R_nil ?_))) <;> ((refine thenQ_nrm ?_; (refine W_cond rfl (fun ht => ?_) (fun ht => ?_) <;> (first | exact absurd ht (by decide) | (refine W_seq ?_; (refine W_rgn ?_; ((refine Ra rfl (X_mv rfl ?_)) <;> (refine Ra rfl (X_mv rfl ?_)) <;> (refine Ra rfl (X_mv rfl ?_)) <;> (refine R_nil ?_))) <;> ((refine thenQ_nrm ?_; (refine W_ret ?_)))) | (refine W_skip ?_)))))) <;> (first | refine thenQ_ret ?_ | (refine thenQ_nrm ?_; (refine W_seq ?_; (refine W_seq ?_; (refine W_rgn ?_; ((refine Ra rfl (X_load (lBA rfl rfl) ?_)) <;> (refine Ra rfl (X_load (lBA rfl (Et.b4 _)) ?_)) <;> (refine Ra rfl (xP (check_ok lo (by assumption) (by assumption) (by first | assumption | exact Fz.le (by assumption) ZC.le) (by first | assumption | exact Tr.le ZC.le (by assumption))) rfl (fun _ Z30 hz30 hq => ?_)); (obtain ⟨e30, rfl, hq⟩ := hq; rcases hq with ⟨rfl, q1, q2, q3, hI⟩ | ⟨rfl, q1⟩ | ⟨rfl, q1, hI⟩ <;> first | exact absurd ⟨hH, by omega, by omega⟩ q1 | skip)) <;> (refine Ra rfl (X_mv rfl ?_)) <;> (refine R_nil ?_))) <;> ((refine thenQ_nrm ?_; (refine W_seq ?_; (refine W_rgn ?_; ((refine Ra rfl (X_mv rfl ?_)) <;> (first | (refine Ra rfl (X_bin (v := .bool true) rfl rfl rfl ?_)) | (refine Ra rfl (X_bin (v := .bool false) rfl rfl rfl ?_))) <;> (refine R_nil ?_))) <;> ((refine thenQ_nrm ?_; (refine W_cond rfl (fun ht => ?_) (fun ht => ?_) <;> (first | exact absurd ht (by decide) | (refine W_seq ?_; (refine W_rgn ?_; ((refine Ra rfl (X_mv rfl ?_)) <;> (refine Ra rfl (X_mv rfl ?_)) <;> (refine Ra rfl (X_mv rfl ?_)) <;> (refine Ra rfl (X_mv rfl ?_)) <;> (refine R_nil ?_))) <;> ((refine thenQ_nrm ?_; (refine W_ret ?_)))) | (refine W_skip ?_))))))))) <;> (first | refine thenQ_ret ?_ | (refine thenQ_nrm ?_; (refine W_seq ?_; (refine W_rgn ?_; ((refine Ra rfl (X_alloc (fun b13 => ?_))) <;> (refine R_nil ?_))) <;> ((refine thenQ_nrm ?_; (refine W_seq ?_; (refine W_rgn ?_; ((refine Ra rfl (X_load (lBA rfl rfl) ?_)) <;> (refine Ra rfl (X_mv rfl ?_)) <;> (refine Ra rfl (X_bsliceC (pCons rfl Parts.nil) rfl rfl rfl (fun v36 => ?_))) <;> (refine Ra rfl (X_load (lBA rfl (Et.b4 _)) ?_)) <;> (refine Ra rfl (X_mkfunc rfl rfl ?_)) <;> (refine Ra rfl (X_upd ?_); (refine uA v36 fun Zg hzg hfg => ?_; refine Upd.gro0 (e := 3) (by decide) ?_; refine Upd.done ?_; refine xN (eval_ok lo (rs := row vst l) hH (row_sto hb25) (by simp) (see_look lo b13 _) t (Tr.le ZC.le htr) (Fz.le hv ZC.le) hfg (row_ok (Fz.le hst ZC.le) hll) hI.2.2 (Vw.le.refl _) (.slice none 0 0) [] (by have q9 := hI.1; rw [List.length_nil]; omega)) rfl (pB rfl (pG rfl Pick.nil)) (fun _ Z39 o39 hz39 hq O2 hO => ?_); obtain ⟨rfl, s39, rfl⟩ := hq; (try dsimp only at hO); simp only [List.nil_append, List.append_nil, List.cons_append] at hO; subst hO)) <;> (refine Ra rfl (X_mv rfl ?_)) <;> (refine R_nil ?_))) <;> ((refine thenQ_nrm ?_; (refine W_seq ?_; (refine W_drw ?_; ((refine Da rfl rfl (X_mv rfl ?_)) <;> (refine Da rfl rfl (X_load (lB rfl rfl) ?_)) <;> (refine Da rfl rfl (X_mv rfl ?_)) <;> (refine Da rfl rfl (X_mv rfl ?_)) <;> (refine Da rfl rfl (X_mv rfl ?_)) <;> (refine D_nil ?_))) <;> ((refine thenQ_nrm ?_; (refine W_ret ?_))))))))))))))))))))))
  <;> (refine fn_ret (Res.tmp rfl (Res.tmp rfl (Res.tmp rfl Res.nil))) ?_)
  all_goals
    dsimp only [tupled]
    first
      | (refine uG s39 fun Za hza hfa => Upd.nil ⟨rfl, _, s39, evsE w vs [l] t.er, _, rfl, hfa, .inr (.inr ⟨rfl, rfl, rfl, ⟨hH, hb25⟩, hI⟩)⟩)
      | exact Upd.nil ⟨rfl, 0, .slice none 0 0, [], 20, rfl, Fz.nil _ _, .inr (.inl ⟨rfl, rfl, rfl, ⟨hH, hb25⟩, hI⟩)⟩
      | exact Upd.nil ⟨rfl, 0, .slice none 0 0, [], 1, rfl, Fz.nil _ _, .inl ⟨rfl, rfl, rfl, fun h => absurd h.1 hH⟩⟩
      | exact Upd.nil ⟨rfl, 0, .slice none 0 0, [], 1, rfl, Fz.nil _ _, .inl ⟨rfl, rfl, rfl, fun h => absurd h.2 hb25⟩⟩
set_option maxHeartbeats 4000000 in
theorem Arrays_ok (lo : Nat)  : ∀ (t : Et) {Z : Vw} (_ : Tr Z t) (_ : t.er.size ≤ 1000000), CallP F lo 23 [.agg ⟨t.cs⟩] Z fun r _ => r = .int .i64 (arrE t.er : Nat) := by
  intro t
  induction t using Et.ind with
  | h op n c v ks ih =>
  intro Z ht hs
  rw [Tr_mk] at ht
  obtain ⟨⟨hf, hlen⟩, hk⟩ := ht
  have hEl : (ks.map Et.er).length = ks.length := List.length_map _
  rw [sizeT_mk] at hs
  simp only [Et.cs]
  refine FnP (fn := c23) rfl rfl rfl ?_
  (refine W_seq ?_; (refine W_rgn ?_; ((refine Ra rfl (xBox rfl (fun b1 => ?_))) <;> (refine Ra rfl (X_mv rfl ?_)) <;> (refine R_nil ?_))) <;> ((refine thenQ_nrm ?_; (refine W_seq ?_; (refine W_rgn ?_; ((refine Ra rfl (X_faddr rfl ?_)) <;> (refine Ra rfl (X_load (lB rfl rfl) ?_)) <;> (refine Ra rfl (X_eql rfl rfl (fun _ => ?_) (fun _ => ?_))) <;> (refine Ra rfl (X_mv rfl ?_)) <;> (first | (refine Rb rfl rfl (X_faddr rfl ?_)) | (refine Rc rfl rfl ?_)) <;> (first | (refine Rb rfl rfl (X_load (lB rfl rfl) ?_)) | (refine Rc rfl rfl ?_)) <;> (first | (refine Rb rfl rfl (xLen rfl ?_)) | (refine Rc rfl rfl ?_)) <;> (first | (refine Rb rfl rfl (X_gtr rfl rfl (fun _ => ?_) (fun _ => ?_))) | (refine Rc rfl rfl ?_)) <;> (first | (refine Ra rfl (X_pickT rfl rfl ?_)) | (refine Ra rfl (X_pickF rfl rfl ?_))) <;> (first | (refine Ra rfl (xP (OneT_ok lo) rfl (fun _ Z14 hz14 hq => ?_)); (subst hq)) | (refine Ra rfl (xP (OneF_ok lo) rfl (fun _ Z14 hz14 hq => ?_)); (subst hq))) <;> (refine Ra rfl (X_mv rfl ?_)) <;> (refine R_nil ?_))) <;> ((refine thenQ_nrm ?_; (refine W_seq ?_; (refine W_seq ?_; (refine W_rgn ?_; ((refine Ra rfl (X_mv rfl ?_)) <;> (refine R_nil ?_))) <;> ((refine thenQ_nrm ?_; (refine W_block ?_; ((
      obtain ⟨a9, ha9⟩ : ∃ a9 : Nat, a9 = (if op = 1 ∧ 0 < ks.length then 1 else 0) := ⟨_, rfl⟩
      have ha1 : a9 ≤ 1 := by rw [ha9]; split <;> omega
      refine wLoop (fun i : Nat => [(4, .int .i64 i), (3, .int .i64 ((a9 : Int) + (arrL ((ks.map Et.er).take i) : Nat)))]) (fun _ => [.box b1 [.int .i64 op, .int .i64 n, .int .i64 c, v]]) (fun i _ => i ≤ ks.length) (fun i => ks.length - i) 0 ?_ (Upd.done ⟨Nat.zero_le _, hB rfl Has.nil⟩) ?_
      · first | rw [ha9, if_pos ⟨by assumption, by omega⟩] | rw [ha9, if_neg (by omega)]
        rw [List.take_zero, arrL]
        exact (by repeat' (first | exact trivial | exact rfl | constructor))
      intro i Z1 hz1 hi
      have hsk : i < ks.length → (ks.getD i default).er.size ≤ 1000000 := fun h => (by have := sizeT_get h; omega)
      have hak := arrE_le (ks.getD i default).er
      have hal := arrL_le ((ks.map Et.er).take i)
      have hal2 := Ex.sizeL_le (ks := ks.map Et.er) (i := i)) <;> (refine W_seq ?_; (refine W_seq ?_; (refine W_rgn ?_; ((refine Ra rfl (X_mv rfl ?_)) <;> (refine Ra rfl (X_faddr rfl ?_)) <;> (refine Ra rfl (X_load (lB rfl rfl) ?_)) <;> (refine Ra rfl (xLen rfl ?_)) <;> (refine Ra rfl (X_lss rfl rfl (fun _ => ?_) (fun _ => ?_))) <;> (refine R_nil ?_))) <;> ((refine thenQ_nrm ?_; (refine W_cond rfl (fun ht => ?_) (fun ht => ?_) <;> (first | exact absurd ht (by decide) | (refine W_skip ?_) | (refine W_exit ?_)))))) <;> (first | refine thenQ_ext ?_ | (refine thenQ_nrm ?_; (refine W_seq ?_; (refine W_block ?_; (refine W_rgn ?_; ((refine Ra rfl (X_mv rfl ?_)) <;> (refine Ra rfl (X_faddr rfl ?_)) <;> (refine Ra rfl (X_load (lB rfl rfl) ?_)) <;> (refine Ra rfl (X_mv rfl ?_)) <;> (refine Ra rfl (xIa rfl rfl (by omega) (by omega) ?_)) <;> (refine Ra rfl (X_load (lEA rfl (by omega)) ?_)) <;> (refine Ra rfl (xP (ih _ (getD_in (by omega)) (Tr.le ZC.le (hk _ (getD_in (by omega)))) (hsk (by omega))) rfl (fun _ Z28 hz28 hq => ?_)); (subst hq)) <;> (refine Ra rfl (X_addI rfl rfl (by omega) (by omega) ?_)) <;> (refine Ra rfl (X_mv rfl ?_)) <;> (refine R_nil ?_))) <;> (refine blockQ_nrm ?_)) <;> ((refine thenQ_nrm ?_; (refine W_rgn ?_; ((refine Ra rfl (X_mv rfl ?_)) <;> (refine Ra rfl (X_addI rfl rfl (by omega) (by omega) ?_)) <;> (refine Ra rfl (X_mv rfl ?_)) <;> (refine R_nil ?_))))))))) <;> (first | refine thenQ_ext ?_ | (refine thenQ_nrm ?_; (
        refine Upd.done ⟨i + 1, by omega, by omega, ?_, hB rfl Has.nil⟩
        rw [arrT_take (by omega), Int.natCast_add (arrL _), ← Int.add_assoc]
        exact (by repeat' (first | exact trivial | exact rfl | constructor)))))) <;> (refine blockQ_ext ?_))))) <;> ((refine thenQ_nrm ?_; (refine W_seq ?_; (refine W_rgn ?_; ((refine Ra rfl (X_mv rfl ?_)) <;> (refine Ra rfl (X_mv rfl ?_)) <;> (refine R_nil ?_))) <;> ((refine thenQ_nrm ?_; (refine W_ret ?_)))))))))))))
  <;> (refine fnP_ret (Res.tmp rfl Res.nil) ?_)
  all_goals
    have hi2 : i = ks.length := by omega
    subst hi2
    rw [arrT_mk, arrT_all, ← ha9]
    exact congrArg (Value.int .i64) (Int.natCast_add _ _).symm
set_option maxHeartbeats 4000000 in
theorem valued_ok (lo : Nat) {Z : Vw} {w : Int} {vv vst : Value} {vs : List Vr} {rs : List Rw} {t : Et} (hvl : vs.length < 9223372036854775808) (hnm : ∀ i, i < vs.length → (vs.getD i default).nm.length < 9223372036854775808) (hv : Vrs Z vv vs) (hsv : Fz Z 1 vst (rs.map Rw.c)) (hrk : RwOK Z rs) (hrl : rs.length < 9223372036854775808) (htr : Tr Z t) : CallP F lo 17 [.int .i64 w, vv, vst, .agg ⟨t.cs⟩] Z fun r _ => ∃ c, r = .int .i64 c ∧ vldP w vs rs t.er c := by
  refine FnP (fn := c17) rfl rfl rfl ?_
  (refine W_seq ?_; (refine W_rgn ?_; ((refine Ra rfl (xBox rfl (fun b7 => ?_))) <;> (refine Ra rfl (X_mv rfl ?_)) <;> (refine R_nil ?_))) <;> ((refine thenQ_nrm ?_; (refine W_seq ?_; (refine W_seq ?_; (refine W_rgn ?_; ((refine Ra rfl (X_mv rfl ?_)) <;> (refine Ra rfl (X_mv rfl ?_)) <;> (refine Ra rfl (xP (RHeading_ok lo (vs := vs) _ (by assumption) (by assumption)) rfl (fun _ Z11 hz11 hb11 => ?_)); (obtain ⟨b11, rfl, hb11⟩ := hb11; cases b11 <;> simp only [Bool.false_eq_true, false_iff, true_iff] at hb11)) <;> (refine Ra rfl (X_not rfl ?_)) <;> (refine Ra rfl (X_mv rfl ?_)) <;> (first | (refine Rb rfl rfl (X_mv rfl ?_)) | (refine Rc rfl rfl ?_)) <;> (first | (refine Rb rfl rfl (xLen rfl ?_)) | (refine Rc rfl rfl ?_)) <;> (first | (refine Rb rfl rfl (X_lss rfl rfl (fun _ => ?_) (fun _ => ?_))) | (refine Rc rfl rfl ?_)) <;> (first | (refine Ra rfl (X_pickT rfl rfl ?_)) | (refine Ra rfl (X_pickF rfl rfl ?_))) <;> (refine Ra rfl (X_mv rfl ?_)) <;> (first | (refine Rb rfl rfl (X_mv rfl ?_)) | (refine Rc rfl rfl ?_)) <;> (first | (refine Rb rfl rfl (xLen rfl ?_)) | (refine Rc rfl rfl ?_)) <;> (first | (refine Rb rfl rfl (X_gtr rfl rfl (fun _ => ?_) (fun _ => ?_))) | (refine Rc rfl rfl ?_)) <;> (first | (refine Ra rfl (X_pickT rfl rfl ?_)) | (refine Ra rfl (X_pickF rfl rfl ?_))) <;> (refine Ra rfl (X_mv rfl ?_)) <;> (first | (refine Rb rfl rfl (X_mv rfl ?_)) | (refine Rc rfl rfl ?_)) <;> (first | (refine Rb rfl rfl (X_mv rfl ?_)) | (refine Rc rfl rfl ?_)) <;> (first | (refine Rb rfl rfl (X_mv rfl ?_)) | (refine Rc rfl rfl ?_)) <;> (first | (refine Rb rfl rfl (xP (RStores_ok lo (by assumption) (Fz.le hv ZC.le) (Fz.le hsv ZC.le) (hrk.le ZC.le) hrl) rfl (fun _ Z27 hz27 hb27 => ?_)); (obtain ⟨b27, rfl, hb27⟩ := hb27; cases b27 <;> simp only [Bool.false_eq_true, false_iff, true_iff] at hb27)) | (refine Rc rfl rfl ?_)) <;> (first | (refine Rb rfl rfl (X_not rfl ?_)) | (refine Rc rfl rfl ?_)) <;> (first | (refine Ra rfl (X_pickT rfl rfl ?_)) | (refine Ra rfl (X_pickF rfl rfl ?_))) <;> (refine R_nil ?_))) <;> ((refine thenQ_nrm ?_; (refine W_cond rfl (fun ht => ?_) (fun ht => ?_) <;> (first | exact absurd ht (by decide) | (refine W_seq ?_; (refine W_rgn ?_; ((refine Ra rfl (X_mv rfl ?_)) <;> (refine R_nil ?_))) <;> ((refine thenQ_nrm ?_; (refine W_ret ?_)))) | (refine W_skip ?_)))))) <;> (first | refine thenQ_ret ?_ | (refine thenQ_nrm ?_; (refine W_seq ?_; (refine W_seq ?_; (refine W_rgn ?_; ((refine Ra rfl (X_mv rfl ?_)) <;> (refine Ra rfl (X_mv rfl ?_)) <;> (refine Ra rfl (X_mv rfl ?_)) <;> (refine Ra rfl (xLen rfl ?_)) <;> (refine Ra rfl (X_load (lBA rfl (Et.b4 _)) ?_)) <;> (refine Ra rfl (xP (Is_ok lo (by assumption) (by first | assumption | exact Fz.le (by assumption) ZC.le) (by first | assumption | exact Tr.le ZC.le (by assumption))) rfl (fun _ Z35 hz35 hb35 => ?_)); (obtain ⟨b35, rfl, hb35⟩ := hb35; cases b35 <;> simp only [Bool.false_eq_true, false_iff, true_iff] at hb35)) <;> (refine Ra rfl (X_not rfl ?_)) <;> (refine R_nil ?_))) <;> ((refine thenQ_nrm ?_; (refine W_cond rfl (fun ht => ?_) (fun ht => ?_) <;> (first | exact absurd ht (by decide) | (refine W_seq ?_; (refine W_rgn ?_; ((refine Ra rfl (X_mv rfl ?_)) <;> (refine R_nil ?_))) <;> ((refine thenQ_nrm ?_; (refine W_ret ?_)))) | (refine W_skip ?_)))))) <;> (first | refine thenQ_ret ?_ | (refine thenQ_nrm ?_; (refine W_seq ?_; (refine W_rgn ?_; ((refine Ra rfl (X_mv rfl ?_)) <;> (refine R_nil ?_))) <;> ((refine thenQ_nrm ?_; (refine W_ret ?_)))))))))))))
  <;> (refine fnP_ret (Res.tmp rfl Res.nil) ?_)
  all_goals
    refine ⟨_, rfl, ?_⟩
    unfold vldP stoP
    first
      | exact .inl ⟨rfl, ⟨hb11, by omega, by omega, hb27⟩, hb35⟩
      | exact .inr (.inr ⟨rfl, ⟨hb11, by omega, by omega, hb27⟩, hb35⟩)
      | exact .inr (.inl ⟨rfl, fun h => absurd h.1 hb11⟩)
      | exact .inr (.inl ⟨rfl, fun h => absurd h.2.2.2 hb27⟩)
      | exact .inr (.inl ⟨rfl, fun h => by omega⟩)
end Go.Proofs.Ytlidnionbofkaaa.Hm.V
