import Derived.Test.YtbjgnogcjglcoaaHF
import Derived.Test.YtbjgnogcjglcoaaA6
import Derived.Test.YtbjgnogcjglcoaaVT8
namespace Go.Proofs.Ytbjgnogcjglcoaa.Hm.V
open Go
set_option linter.all false
set_option maxRecDepth 100000
attribute [local irreducible] X S R D W Call Upd Rds Rck Sees Res Cel CallP fnQ
set_option maxHeartbeats 4000000 in
theorem two_ok (lo : Nat) {Z : Vw} {v u : Value} {a b : Au} (ha : AuV Z v a) (hb : AuV Z u b) : CallP F lo 76 [v, u] Z fun r _ => (¬ (isAutoP a ∧ isAutoP b) ∧ r = .int .i64 270) ∨ (isAutoP a ∧ isAutoP b ∧ ¬ a.L = b.L ∧ r = .int .i64 1) ∨ (isAutoP a ∧ isAutoP b ∧ a.L = b.L ∧ r = .int .i64 0) := by
  have hV := ha
  have hU := hb
  obtain ⟨vs, ve, vg, rfl, hs, he, hg, q1, q2, q3⟩ := ha
  obtain ⟨us, ue, ug, rfl, ks, ke, kg, p1, p2, p3⟩ := hb
  refine FnP (fn := c76) rfl rfl rfl ?_
  (refine W_seq ?_; (refine W_rgn ?_; ((refine Ra rfl (xBox rfl (fun b2 => ?_))) <;> (refine Ra rfl (xBox rfl (fun b3 => ?_))) <;> (refine Ra rfl (X_mv rfl ?_)) <;> (refine R_nil ?_))) <;> ((refine thenQ_nrm ?_; (refine W_seq ?_; (refine W_block ?_; (refine W_seq ?_; (refine W_rgn ?_; ((refine Ra rfl (X_load (lBA rfl rfl) ?_)) <;> (refine Ra rfl (xP (Check_ok lo (by first | assumption | exact AuV.le (by assumption) ZC.le)) rfl (fun _ Z7 hz7 hq => ?_)); (obtain ⟨cc, rfl, hc⟩ := hq; rcases hc with ⟨rfl, hA7⟩ | ⟨rfl, hA7⟩)) <;> (first | (refine Ra rfl (X_bin (v := .bool true) rfl rfl rfl ?_)) | (refine Ra rfl (X_bin (v := .bool false) rfl rfl rfl ?_))) <;> (refine Ra rfl (X_mv rfl ?_)) <;> (first | (refine Rb rfl rfl (X_load (lBA rfl rfl) ?_)) | (refine Rc rfl rfl ?_)) <;> (first | (refine Rb rfl rfl (xP (Check_ok lo (by first | assumption | exact AuV.le (by assumption) ZC.le)) rfl (fun _ Z11 hz11 hq => ?_)); (obtain ⟨cc, rfl, hc⟩ := hq; rcases hc with ⟨rfl, hA11⟩ | ⟨rfl, hA11⟩)) | (refine Rc rfl rfl ?_)) <;> (first | (refine Rb rfl rfl (X_bin (v := .bool true) rfl rfl rfl ?_)) | (refine Rb rfl rfl (X_bin (v := .bool false) rfl rfl rfl ?_)) | (refine Rc rfl rfl ?_)) <;> (first | (refine Ra rfl (X_pickT rfl rfl ?_)) | (refine Ra rfl (X_pickF rfl rfl ?_))) <;> (refine Ra rfl (X_mv rfl ?_)) <;> (refine R_nil ?_))) <;> ((refine thenQ_nrm ?_; (refine W_cond rfl (fun ht => ?_) (fun ht => ?_) <;> (first | exact absurd ht (by decide) | (refine W_seq ?_; (refine W_rgn ?_; ((refine Ra rfl (X_mv rfl ?_)) <;> (refine R_nil ?_))) <;> ((refine thenQ_nrm ?_; (refine W_ret ?_)))) | (refine W_seq ?_; (refine W_rgn ?_; ((refine Ra rfl (X_faddr rfl ?_)) <;> (refine Ra rfl (X_load (lB rfl rfl) ?_)) <;> (refine Ra rfl (X_faddr rfl ?_)) <;> (refine Ra rfl (X_load (lB rfl rfl) ?_)) <;> (refine Ra rfl (X_neq rfl rfl (fun _ => ?_) (fun _ => ?_))) <;> (refine Ra rfl (X_mv rfl ?_)) <;> (refine R_nil ?_))) <;> ((refine thenQ_nrm ?_; (refine W_cond rfl (fun ht => ?_) (fun ht => ?_) <;> (first | exact absurd ht (by decide) | (refine W_seq ?_; (refine W_rgn ?_; ((refine Ra rfl (X_mv rfl ?_)) <;> (refine R_nil ?_))) <;> ((refine thenQ_nrm ?_; (refine W_ret ?_)))) | (refine W_skip ?_))))))))))) <;> (first | refine blockQ_nrm ?_ | refine blockQ_ret ?_)) <;> (first | refine thenQ_ret ?_ | (refine thenQ_nrm ?_; (refine W_seq ?_; (refine W_rgn ?_; ((refine Ra rfl (X_mv rfl ?_)) <;> (refine R_nil ?_))) <;> ((refine thenQ_nrm ?_; (refine W_ret ?_))))))))))
  <;> (refine fnP_ret (Res.tmp rfl Res.nil) ?_)
  all_goals first
    | exact .inl ⟨fun h => hA7 h.1, rfl⟩
    | exact .inl ⟨fun h => hA11 h.2, rfl⟩
    | exact .inr (.inl ⟨hA7, hA11, by assumption, rfl⟩)
    | exact .inr (.inr ⟨hA7, hA11, by assumption, rfl⟩)
    | exact .inr (.inr ⟨hA7, hA11, by omega, rfl⟩)
def shE (k : Int) (x : Ed) : Ed := ⟨k + x.f, x.l, k + x.t⟩
def eitherAu (a b : Au) : Au := ⟨a.S + b.S, a.L, a.st ++ b.st.map (a.S + ·), a.en ++ b.en.map (a.S + ·), a.ed ++ b.ed.map (shE a.S)⟩
def eitherOv (a b : Au) : Prop := 256 < a.S + b.S ∨ 200000 < a.ed.length + b.ed.length
theorem rising_app {l m : List Int} {S T : Int} (hl : risingP l S) (hm : risingP m T) (hS : 0 ≤ S) (hT : 0 ≤ T) : risingP (l ++ m.map (S + ·)) (S + T) := by
  have e1 : ∀ i, i < l.length → (l ++ m.map (S + ·)).getD i default = l.getD i default := fun i hi => by
    rw [getD_app hi]
  have e2 : ∀ i, l.length ≤ i → i < l.length + m.length → (l ++ m.map (S + ·)).getD i default = S + m.getD (i - l.length) default := fun i h1 h2 => by
    rw [getD_eq (by rw [List.length_append, List.length_map]; exact h2), List.getElem_append_right h1, List.getElem_map, getD_eq (by omega)]
  intro i hi
  rw [List.length_append, List.length_map] at hi
  unfold okAt
  rcases Nat.lt_or_ge i l.length with h | h
  · obtain ⟨q1, q2, q3⟩ := hl i h
    rw [e1 i h, e1 (i - 1) (by omega)]
    exact ⟨q1, by omega, q3⟩
  · obtain ⟨q1, q2, q3⟩ := hm (i - l.length) (by omega)
    rw [e2 i h hi]
    refine ⟨by omega, by omega, fun hp => ?_⟩
    rcases Nat.lt_or_ge (i - 1) l.length with h4 | h4
    · obtain ⟨r1, r2, _⟩ := hl (i - 1) h4
      rw [e1 (i - 1) h4]; omega
    · rw [e2 (i - 1) h4 (by omega)]
      have h5 := q3 (by omega)
      rw [show i - l.length - 1 = i - 1 - l.length by omega] at h5
      omega
theorem either_raw {a b : Au} (ha : isAutoP a) (hb : isAutoP b) (hL : a.L = b.L) (hn : ¬ eitherOv a b) : rawAu (eitherAu a b) := by
  unfold eitherOv at hn
  refine ⟨by show 0 ≤ a.S + b.S; have := ha.1; have := hb.1; omega, by show a.S + b.S ≤ 256; omega, ha.2.2.1, ha.2.2.2.1, rising_app ha.2.2.2.2.2.1 hb.2.2.2.2.2.1 ha.1 hb.1, rising_app ha.2.2.2.2.2.2.1 hb.2.2.2.2.2.2.1 ha.1 hb.1, fun x hx => ?_⟩
  have h0 := ha.1
  have h1 := hb.1
  rcases List.mem_append.1 hx with hx | hx
  · obtain ⟨q1, q2, q3, q4, q5, q6⟩ := edsIn.of ha x hx
    exact ⟨q1, by show _ < a.S + b.S; omega, q3, by show _ < a.S + b.S; omega, q5, q6⟩
  · obtain ⟨y, hy, rfl⟩ := List.mem_map.1 hx
    obtain ⟨q1, q2, q3, q4, q5, q6⟩ := edsIn.of hb y hy
    exact ⟨by show 0 ≤ a.S + y.f; omega, by show a.S + y.f < a.S + b.S; omega, by show 0 ≤ a.S + y.t; omega, by show a.S + y.t < a.S + b.S; omega, q5, by show y.l < a.L; omega⟩
def eitherQ (a b : Au) (r : Value) (Z : Vw) : Prop := (¬ (isAutoP a ∧ isAutoP b) ∧ r = .tuple ⟨[noAuV, .int .i64 270]⟩) ∨ (isAutoP a ∧ isAutoP b ∧ ¬ a.L = b.L ∧ r = .tuple ⟨[noAuV, .int .i64 1]⟩) ∨ (isAutoP a ∧ isAutoP b ∧ a.L = b.L ∧ eitherOv a b ∧ r = .tuple ⟨[noAuV, .int .i64 5]⟩) ∨ (isAutoP a ∧ isAutoP b ∧ a.L = b.L ∧ ¬ eitherOv a b ∧ ∃ v, r = .tuple ⟨[v, .int .i64 0]⟩ ∧ AuV Z v (doneAu (eitherAu a b)))
set_option maxHeartbeats 4000000 in
theorem EitherA_ok (lo : Nat) {Z : Vw} {v u : Value} {a b : Au} (ha : AuV Z v a) (hb : AuV Z u b) : CallP F lo 48 [v, u] Z fun r Z' => eitherQ a b r Z' := by
  have hU := hb
  have hV := ha
  obtain ⟨vs, ve, vg, rfl, hs, he, hg, q1, q2, q3⟩ := ha
  obtain ⟨us, ue, ug, rfl, ks, ke, kg, p1, p2, p3⟩ := hb
  refine FnP (fn := c48) rfl rfl rfl ?_
  (refine W_seq ?_; (refine W_rgn ?_; ((refine Ra rfl (xBox rfl (fun b2 => ?_))) <;> (refine Ra rfl (xBox rfl (fun b3 => ?_))) <;> (refine Ra rfl (X_alloc (fun b4 => ?_))) <;> (refine Ra rfl (X_mv rfl ?_)) <;> (refine R_nil ?_))) <;> ((refine thenQ_nrm ?_; (refine W_seq ?_; (refine W_seq ?_; (refine W_rgn ?_; ((refine Ra rfl (X_load (lBA rfl rfl) ?_)) <;> (refine Ra rfl (X_load (lBA rfl rfl) ?_)) <;> (refine Ra rfl (xP (two_ok lo (by first | assumption | exact AuV.le (by assumption) ZC.le) (by first | assumption | exact AuV.le (by assumption) ZC.le)) rfl (fun _ Z16 hz16 hq => ?_)); (rcases hq with ⟨hA, rfl⟩ | ⟨hA, hAb, hL, rfl⟩ | ⟨hA, hAb, hL, rfl⟩ <;> try (have hS0 := hA.1; have hS1 := hA.2.1; have hL0 := hA.2.2.1; have hL1 := hA.2.2.2.1; have hedl := hA.2.2.2.2.1; have hrst := hA.2.2.2.2.2.1; have hren := hA.2.2.2.2.2.2.1; have hstl := rising_len hrst hS0; have henl := rising_len hren hS0; have hedi := edsIn.of hA; have hS0b := hAb.1; have hS1b := hAb.2.1; have hL0b := hAb.2.2.1; have hL1b := hAb.2.2.2.1; have hedlb := hAb.2.2.2.2.1; have hrstb := hAb.2.2.2.2.2.1; have hrenb := hAb.2.2.2.2.2.2.1; have hstlb := rising_len hrstb hS0b; have henlb := rising_len hrenb hS0b; have hedib := edsIn.of hAb))) <;> (refine Ra rfl (X_mv rfl ?_)) <;> (refine R_nil ?_))) <;> ((refine thenQ_nrm ?_; (refine W_seq ?_; (refine W_rgn ?_; ((refine Ra rfl (X_mv rfl ?_)) <;> (first | (refine Ra rfl (X_bin (v := .bool true) rfl rfl rfl ?_)) | (refine Ra rfl (X_bin (v := .bool false) rfl rfl rfl ?_))) <;> (refine R_nil ?_))) <;> ((refine thenQ_nrm ?_; (refine W_cond rfl (fun ht => ?_) (fun ht => ?_) <;> (first | exact absurd ht (by decide) | (refine W_seq ?_; (refine W_rgn ?_; ((refine Ra rfl (X_buildC Parts.nil rfl ?_)) <;> (refine Ra rfl (X_mv rfl ?_)) <;> (refine Rn (xSW rfl rfl rfl rfl ?_)) <;> (refine Ra rfl (X_mv rfl ?_)) <;> (refine R_nil ?_))) <;> ((refine thenQ_nrm ?_; (refine W_ret ?_)))) | (refine W_skip ?_))))))))) <;> (first | refine thenQ_ret ?_ | (refine thenQ_nrm ?_; (refine W_seq ?_; (refine W_seq ?_; (refine W_rgn ?_; ((refine Ra rfl (X_faddr rfl ?_)) <;> (refine Ra rfl (X_load (lB rfl rfl) ?_)) <;> (refine Ra rfl (X_faddr rfl ?_)) <;> (refine Ra rfl (X_load (lB rfl rfl) ?_)) <;> (refine Ra rfl (X_addI rfl rfl (by omega) (by omega) ?_)) <;> (refine Ra rfl (X_gtr rfl rfl (fun _ => ?_) (fun _ => ?_))) <;> (refine Ra rfl (X_mv rfl ?_)) <;> (first | (refine Rb rfl rfl (X_faddr rfl ?_)) | (refine Rc rfl rfl ?_)) <;> (first | (refine Rb rfl rfl (X_load (lB rfl rfl) ?_)) | (refine Rc rfl rfl ?_)) <;> (first | (refine Rb rfl rfl (xLen rfl ?_)) | (refine Rc rfl rfl ?_)) <;> (first | (refine Rb rfl rfl (X_faddr rfl ?_)) | (refine Rc rfl rfl ?_)) <;> (first | (refine Rb rfl rfl (X_load (lB rfl rfl) ?_)) | (refine Rc rfl rfl ?_)) <;> (first | (refine Rb rfl rfl (xLen rfl ?_)) | (refine Rc rfl rfl ?_)) <;> (first | (refine Rb rfl rfl (X_addI rfl rfl (by omega) (by omega) ?_)) | (refine Rc rfl rfl ?_)) <;> (first | (refine Rb rfl rfl (X_gtr rfl rfl (fun _ => ?_) (fun _ => ?_))) | (refine Rc rfl rfl ?_)) <;> (first | (refine Ra rfl (X_pickT rfl rfl ?_)) | (refine Ra rfl (X_pickF rfl rfl ?_))) <;> (refine R_nil ?_))) <;> ((refine thenQ_nrm ?_; (refine W_cond rfl (fun ht => ?_) (fun ht => ?_) <;> (first | exact absurd ht (by decide) | (refine W_seq ?_; (refine W_rgn ?_; ((refine Ra rfl (X_buildC Parts.nil rfl ?_)) <;> (refine Rn (xSW rfl rfl rfl rfl ?_)) <;> (refine Ra rfl (X_mv rfl ?_)) <;> (refine R_nil ?_))) <;> ((refine thenQ_nrm ?_; (refine W_ret ?_)))) | (refine W_skip ?_)))))) <;> (first | refine thenQ_ret ?_ | (refine thenQ_nrm ?_; (refine W_seq ?_; (refine W_rgn ?_; ((refine Ra rfl (X_faddr rfl ?_)) <;> (refine Ra rfl (X_load (lB rfl rfl) ?_)) <;> (refine Ra rfl (X_faddr rfl ?_)) <;> (refine Ra rfl (X_load (lB rfl rfl) ?_)) <;> (refine Ra rfl (X_addI rfl rfl (by omega) (by omega) ?_)) <;> (refine Ra rfl (X_faddr rfl ?_)) <;> (refine Ra rfl (X_load (lB rfl rfl) ?_)) <;> (refine Ra rfl (X_buildC (pCons rfl (pCons rfl Parts.nil)) rfl ?_)) <;> (refine Ra rfl (X_buildC (pCons rfl Parts.nil) rfl ?_)) <;> (refine Ra rfl (X_alloc (fun b7 => ?_))) <;> (refine Rn (xSW rfl rfl rfl rfl ?_)) <;> (refine R_nil ?_))) <;> ((refine thenQ_nrm ?_; (refine W_seq ?_; (refine W_drw ?_; ((refine Da rfl rfl (X_faddr rfl ?_)) <;> (refine Da rfl rfl (X_load (lB rfl rfl) ?_)) <;> (refine Da rfl rfl (X_faddr rfl ?_)) <;> (refine Da rfl rfl (X_load (lB rfl rfl) ?_)) <;> (refine Da rfl rfl (X_faddr rfl ?_)) <;> (refine Da rfl rfl (X_load (lB rfl rfl) ?_)) <;> (refine D_consR rfl (S_do rfl (xCg (CloneG1_ok lo (by omega)) rfl (fun w49 Z49 hz49 => ⟨(by (refine rDo rfl rfl (lB rfl rfl) ?_); (refine rDo rfl rfl (lB rfl rfl) ?_); exact Rck_nil), ?_⟩)))) <;> (refine D_consR rfl (S_do rfl (xCg (CloneG1_ok lo (by omega)) rfl (fun w52 Z52 hz52 => ⟨(by (refine rDo rfl rfl (lB rfl rfl) ?_); exact Rck_nil), ?_⟩)))) <;> (refine Da rfl rfl (xCg (CloneG3_ok lo (by omega)) rfl (fun w55 Z55 hz55 => ?_))) <;> (refine Da rfl rfl (X_faddr rfl ?_)) <;> (refine Da rfl rfl (X_faddr rfl ?_)) <;> (refine Dn rfl (xSB rfl rfl rfl rfl rfl ?_)) <;> (refine Da rfl rfl (X_faddr rfl ?_)) <;> (refine Da rfl rfl (X_faddr rfl ?_)) <;> (refine Dn rfl (xSB rfl rfl rfl rfl rfl ?_)) <;> (refine Da rfl rfl (X_faddr rfl ?_)) <;> (refine Da rfl rfl (X_faddr rfl ?_)) <;> (refine Dn rfl (xSB rfl rfl rfl rfl rfl ?_)) <;> (refine D_nil ?_))) <;> ((refine thenQ_nrm ?_; (refine W_seq ?_; (refine W_seq ?_; (refine W_rgn ?_; ((refine Ra rfl (X_faddr rfl ?_)) <;> (refine Ra rfl (X_load (lB rfl rfl) ?_)) <;> (refine Ra rfl (xLen rfl ?_)) <;> (refine Ra rfl (X_mv rfl ?_)) <;> (refine R_nil ?_))) <;> ((refine thenQ_nrm ?_; (refine W_block ?_; ((
      refine wLoop (fun p : Nat × Value => match p with | (i, we) => [(65, .int .i64 (i : Nat))]) (fun p => match p with | (i, we) => [.box b7 [.int .i64 (a.S + b.S), .int .i64 a.L, we, w52, w55], .gro we 1 ((a.st ++ (b.st.take i).map (a.S + ·)).map cI), .gro w52 1 (a.en.map cI), .gro w55 3 (a.ed.map Ed.c), .box b4 [.int .i64 0, .int .i64 0, .slice none 0 0, .slice none 0 0, .slice none 0 0], .box b2 [.int .i64 a.S, .int .i64 a.L, vs, ve, vg], .box b3 [.int .i64 b.S, .int .i64 b.L, us, ue, ug]]) (fun p _ => match p with | (i, _) => i ≤ b.st.length) (fun p => match p with | (i, _) => b.st.length - i) (0, w49) (by repeat' (first | exact trivial | exact rfl | constructor))
        (Upd.done ⟨Nat.zero_le _, hB rfl (hG (by simp) (hG rfl (hG rfl (hB rfl (hB rfl (hB rfl Has.nil))))))⟩) ?_
      rintro ⟨i, we⟩ Z65 hz65 hi
      have hi : i ≤ b.st.length := hi
      have htl : (a.st ++ (b.st.take i).map (a.S + ·)).length = a.st.length + i := by rw [List.length_append, List.length_map, List.length_take]; omega
      have hel : i < b.st.length → 0 ≤ b.st.getD i default ∧ b.st.getD i default < b.S := fun h => ⟨(hrstb i h).1, (hrstb i h).2.1⟩) <;> (refine W_seq ?_; (refine W_rgn ?_; ((refine Ra rfl (X_lss rfl rfl (fun _ => ?_) (fun _ => ?_))) <;> (refine R_nil ?_))) <;> ((refine thenQ_nrm ?_; (refine W_seq ?_; (refine W_cond rfl (fun ht => ?_) (fun ht => ?_) <;> (first | exact absurd ht (by decide) | (refine W_skip ?_) | (refine W_exit ?_))) <;> (first | refine thenQ_ext ?_ | (refine thenQ_nrm ?_; (refine W_seq ?_; (refine W_block ?_; (refine W_seq ?_; (refine W_rgn ?_; ((refine Ra rfl (xIa rfl rfl (by omega) (by omega) ?_)) <;> (refine Ra rfl (X_load (lE0 rfl (by omega) rfl) ?_)) <;> (refine Ra rfl (X_mv rfl ?_)) <;> (refine R_nil ?_))) <;> ((refine thenQ_nrm ?_; (refine W_rgn ?_; ((refine Ra rfl (X_faddr rfl ?_)) <;> (refine Ra rfl (X_faddr rfl ?_)) <;> (refine Ra rfl (X_load (lB rfl rfl) ?_)) <;> (refine Ra rfl (X_faddr rfl ?_)) <;> (refine Ra rfl (X_load (lB rfl rfl) ?_)) <;> (refine Ra rfl (X_mv rfl ?_)) <;> (refine Ra rfl (X_addI rfl rfl (by omega) (by omega) ?_)) <;> (refine Ra rfl (X_bsliceC (pCons rfl Parts.nil) rfl rfl rfl (fun v76 => ?_))) <;> (refine Ra rfl (xApGm (fe := cI) (a.S + b.st.getD i default) rfl rfl rfl (by omega) (fun v77 => ?_))) <;> (refine Ra rfl (X_faddr rfl ?_)) <;> (refine Ra rfl (X_faddr rfl ?_)) <;> (refine Rn (xSB rfl rfl rfl rfl rfl ?_)) <;> (refine R_nil ?_)))))) <;> (refine blockQ_nrm ?_)) <;> ((refine thenQ_nrm ?_; (refine W_rgn ?_; ((refine Ra rfl (X_addI rfl rfl (by omega) (by omega) ?_)) <;> (refine Ra rfl (X_mv rfl ?_)) <;> (refine R_nil ?_)))))))))))) <;> (first | refine thenQ_ext ?_ | (refine thenQ_nrm ?_; (
        refine Upd.done ⟨(i + 1, _), ?_, ?_, (by repeat' (first | exact trivial | exact rfl | constructor)), hB rfl (hG ?_ (hG rfl (hG rfl (hB rfl (hB rfl (hB rfl Has.nil))))))⟩
        · show b.st.length - (i + 1) < b.st.length - i
          omega
        · show i + 1 ≤ b.st.length
          omega
        · rw [take_succ_at (by omega)]; simp only [List.map_append, List.map_cons, List.map_nil, List.append_assoc])))) <;> (refine blockQ_ext ?_))))) <;> ((refine thenQ_nrm ?_; (refine W_seq ?_; (refine W_seq ?_; (refine W_rgn ?_; ((refine Ra rfl (X_faddr rfl ?_)) <;> (refine Ra rfl (X_load (lB rfl rfl) ?_)) <;> (refine Ra rfl (xLen rfl ?_)) <;> (refine Ra rfl (X_mv rfl ?_)) <;> (refine R_nil ?_))) <;> ((refine thenQ_nrm ?_; (refine W_block ?_; ((
      obtain rfl : i = b.st.length := by omega
      obtain ⟨ws1, hws1⟩ : ∃ ws1, ws1 = we := ⟨_, rfl⟩
      subst hws1
      refine wLoop (fun p : Nat × Value => match p with | (i, we) => [(84, .int .i64 (i : Nat))]) (fun p => match p with | (i, we) => [.box b7 [.int .i64 (a.S + b.S), .int .i64 a.L, ws1, we, w55], .gro ws1 1 ((a.st ++ (b.st.take b.st.length).map (a.S + ·)).map cI), .gro we 1 ((a.en ++ (b.en.take i).map (a.S + ·)).map cI), .gro w55 3 (a.ed.map Ed.c), .box b4 [.int .i64 0, .int .i64 0, .slice none 0 0, .slice none 0 0, .slice none 0 0], .box b2 [.int .i64 a.S, .int .i64 a.L, vs, ve, vg], .box b3 [.int .i64 b.S, .int .i64 b.L, us, ue, ug]]) (fun p _ => match p with | (i, _) => i ≤ b.en.length) (fun p => match p with | (i, _) => b.en.length - i) (0, w52) (by repeat' (first | exact trivial | exact rfl | constructor))
        (Upd.done ⟨Nat.zero_le _, hB rfl (hG rfl (hG (by simp) (hG rfl (hB rfl (hB rfl (hB rfl Has.nil))))))⟩) ?_
      rintro ⟨i, we⟩ Z84 hz84 hi
      have hi : i ≤ b.en.length := hi
      have htl : (a.en ++ (b.en.take i).map (a.S + ·)).length = a.en.length + i := by rw [List.length_append, List.length_map, List.length_take]; omega
      have hel : i < b.en.length → 0 ≤ b.en.getD i default ∧ b.en.getD i default < b.S := fun h => ⟨(hrenb i h).1, (hrenb i h).2.1⟩) <;> (refine W_seq ?_; (refine W_rgn ?_; ((refine Ra rfl (X_lss rfl rfl (fun _ => ?_) (fun _ => ?_))) <;> (refine R_nil ?_))) <;> ((refine thenQ_nrm ?_; (refine W_seq ?_; (refine W_cond rfl (fun ht => ?_) (fun ht => ?_) <;> (first | exact absurd ht (by decide) | (refine W_skip ?_) | (refine W_exit ?_))) <;> (first | refine thenQ_ext ?_ | (refine thenQ_nrm ?_; (refine W_seq ?_; (refine W_block ?_; (refine W_seq ?_; (refine W_rgn ?_; ((refine Ra rfl (xIa rfl rfl (by omega) (by omega) ?_)) <;> (refine Ra rfl (X_load (lE0 rfl (by omega) rfl) ?_)) <;> (refine Ra rfl (X_mv rfl ?_)) <;> (refine R_nil ?_))) <;> ((refine thenQ_nrm ?_; (refine W_rgn ?_; ((refine Ra rfl (X_faddr rfl ?_)) <;> (refine Ra rfl (X_faddr rfl ?_)) <;> (refine Ra rfl (X_load (lB rfl rfl) ?_)) <;> (refine Ra rfl (X_faddr rfl ?_)) <;> (refine Ra rfl (X_load (lB rfl rfl) ?_)) <;> (refine Ra rfl (X_mv rfl ?_)) <;> (refine Ra rfl (X_addI rfl rfl (by omega) (by omega) ?_)) <;> (refine Ra rfl (X_bsliceC (pCons rfl Parts.nil) rfl rfl rfl (fun v95 => ?_))) <;> (refine Ra rfl (xApGm (fe := cI) (a.S + b.en.getD i default) rfl rfl rfl (by omega) (fun v96 => ?_))) <;> (refine Ra rfl (X_faddr rfl ?_)) <;> (refine Ra rfl (X_faddr rfl ?_)) <;> (refine Rn (xSB rfl rfl rfl rfl rfl ?_)) <;> (refine R_nil ?_)))))) <;> (refine blockQ_nrm ?_)) <;> ((refine thenQ_nrm ?_; (refine W_rgn ?_; ((refine Ra rfl (X_addI rfl rfl (by omega) (by omega) ?_)) <;> (refine Ra rfl (X_mv rfl ?_)) <;> (refine R_nil ?_)))))))))))) <;> (first | refine thenQ_ext ?_ | (refine thenQ_nrm ?_; (
        refine Upd.done ⟨(i + 1, _), ?_, ?_, (by repeat' (first | exact trivial | exact rfl | constructor)), hB rfl (hG rfl (hG ?_ (hG rfl (hB rfl (hB rfl (hB rfl Has.nil))))))⟩
        · show b.en.length - (i + 1) < b.en.length - i
          omega
        · show i + 1 ≤ b.en.length
          omega
        · rw [take_succ_at (by omega)]; simp only [List.map_append, List.map_cons, List.map_nil, List.append_assoc])))) <;> (refine blockQ_ext ?_))))) <;> ((refine thenQ_nrm ?_; (refine W_seq ?_; (refine W_seq ?_; (refine W_rgn ?_; ((refine Ra rfl (X_faddr rfl ?_)) <;> (refine Ra rfl (X_load (lB rfl rfl) ?_)) <;> (refine Ra rfl (xLen rfl ?_)) <;> (refine Ra rfl (X_mv rfl ?_)) <;> (refine R_nil ?_))) <;> ((refine thenQ_nrm ?_; (refine W_block ?_; ((
      obtain rfl : i = b.en.length := by omega
      obtain ⟨we1, hwe1⟩ : ∃ we1, we1 = we := ⟨_, rfl⟩
      subst hwe1
      refine wLoop (fun p : Nat × Value => match p with | (i, we) => [(103, .int .i64 (i : Nat))]) (fun p => match p with | (i, we) => [.box b7 [.int .i64 (a.S + b.S), .int .i64 a.L, ws1, we1, we], .gro ws1 1 ((a.st ++ (b.st.take b.st.length).map (a.S + ·)).map cI), .gro we1 1 ((a.en ++ (b.en.take b.en.length).map (a.S + ·)).map cI), .gro we 3 ((a.ed ++ (b.ed.take i).map (shE a.S)).map Ed.c), .box b4 [.int .i64 0, .int .i64 0, .slice none 0 0, .slice none 0 0, .slice none 0 0], .box b2 [.int .i64 a.S, .int .i64 a.L, vs, ve, vg], .box b3 [.int .i64 b.S, .int .i64 b.L, us, ue, ug]]) (fun p _ => match p with | (i, _) => i ≤ b.ed.length) (fun p => match p with | (i, _) => b.ed.length - i) (0, w55) (by repeat' (first | exact trivial | exact rfl | constructor))
        (Upd.done ⟨Nat.zero_le _, hB rfl (hG rfl (hG rfl (hG (by simp) (hB rfl (hB rfl (hB rfl Has.nil))))))⟩) ?_
      rintro ⟨i, we⟩ Z103 hz103 hi
      have hi : i ≤ b.ed.length := hi
      have htl : (a.ed ++ (b.ed.take i).map (shE a.S)).length = a.ed.length + i := by rw [List.length_append, List.length_map, List.length_take]; omega
      have hel := fun h : i < b.ed.length => hedib _ (getD_mem h)) <;> (refine W_seq ?_; (refine W_rgn ?_; ((refine Ra rfl (X_lss rfl rfl (fun _ => ?_) (fun _ => ?_))) <;> (refine R_nil ?_))) <;> ((refine thenQ_nrm ?_; (refine W_seq ?_; (refine W_cond rfl (fun ht => ?_) (fun ht => ?_) <;> (first | exact absurd ht (by decide) | (refine W_skip ?_) | (refine W_exit ?_))) <;> (first | refine thenQ_ext ?_ | (refine thenQ_nrm ?_; (refine W_seq ?_; (refine W_block ?_; (refine W_seq ?_; (refine W_rgn ?_; ((refine Ra rfl (xIa rfl rfl (by omega) (by omega) ?_)) <;> (refine Ra rfl (X_load (lEA rfl (by omega)) ?_)) <;> (refine Ra rfl (X_alloc (fun b13 => ?_))) <;> (refine Rn (xSW rfl rfl rfl rfl ?_)) <;> (refine R_nil ?_))) <;> ((refine thenQ_nrm ?_; (refine W_rgn ?_; ((refine Ra rfl (X_faddr rfl ?_)) <;> (refine Ra rfl (X_faddr rfl ?_)) <;> (refine Ra rfl (X_load (lB rfl rfl) ?_)) <;> (refine Ra rfl (X_faddr rfl ?_)) <;> (refine Ra rfl (X_load (lB rfl rfl) ?_)) <;> (refine Ra rfl (X_faddr rfl ?_)) <;> (refine Ra rfl (X_load (lB rfl rfl) ?_)) <;> (refine Ra rfl (X_addI rfl rfl (by omega) (by omega) ?_)) <;> (refine Ra rfl (X_faddr rfl ?_)) <;> (refine Ra rfl (X_load (lB rfl rfl) ?_)) <;> (refine Ra rfl (X_faddr rfl ?_)) <;> (refine Ra rfl (X_load (lB rfl rfl) ?_)) <;> (refine Ra rfl (X_faddr rfl ?_)) <;> (refine Ra rfl (X_load (lB rfl rfl) ?_)) <;> (refine Ra rfl (X_addI rfl rfl (by omega) (by omega) ?_)) <;> (refine Ra rfl (X_buildC (pCons rfl (pCons rfl (pCons rfl Parts.nil))) rfl ?_)) <;> (refine Ra rfl (X_bsliceC (pCons rfl Parts.nil) rfl rfl rfl (fun v123 => ?_))) <;> (refine Ra rfl (xApGm (fe := Ed.c) (shE a.S (b.ed.getD i default)) rfl rfl rfl (by omega) (fun v124 => ?_))) <;> (refine Ra rfl (X_faddr rfl ?_)) <;> (refine Ra rfl (X_faddr rfl ?_)) <;> (refine Rn (xSB rfl rfl rfl rfl rfl ?_)) <;> (refine R_nil ?_)))))) <;> (refine blockQ_nrm ?_)) <;> ((refine thenQ_nrm ?_; (refine W_rgn ?_; ((refine Ra rfl (X_addI rfl rfl (by omega) (by omega) ?_)) <;> (refine Ra rfl (X_mv rfl ?_)) <;> (refine R_nil ?_)))))))))))) <;> (first | refine thenQ_ext ?_ | (refine thenQ_nrm ?_; (
        refine Upd.done ⟨(i + 1, _), ?_, ?_, (by repeat' (first | exact trivial | exact rfl | constructor)), hB rfl (hG rfl (hG rfl (hG ?_ (hB rfl (hB rfl (hB rfl Has.nil))))))⟩
        · show b.ed.length - (i + 1) < b.ed.length - i
          omega
        · show i + 1 ≤ b.ed.length
          omega
        · rw [take_succ_at (by omega)]; simp only [List.map_append, List.map_cons, List.map_nil, List.append_assoc])))) <;> (refine blockQ_ext ?_))))) <;> ((refine thenQ_nrm ?_; (refine W_seq ?_; (refine W_rgn ?_; ((refine Ra rfl (X_upd ?_); (obtain rfl : i = b.ed.length := (by omega); have hno : ¬ eitherOv a b := (by unfold eitherOv; omega); have hraw := either_raw hA hAb hL hno; refine Upd.done ?_; refine xNe (L' := []) (done_ok (st := a.st ++ b.st.map (a.S + ·)) (en := a.en ++ b.en.map (a.S + ·)) (ed := a.ed ++ b.ed.map (shE a.S)) lo hraw.st hraw.en hraw.fine (by simp only [List.length_append, List.length_map]; omega) (by simp only [List.length_append, List.length_map]; omega) (by simp only [List.length_append, List.length_map]; omega)) rfl (pB rfl (pG (by rw [List.take_length]) (pG (by rw [List.take_length]) (pG (by rw [List.take_length]) Pick.nil)))) (fun v128 Z128 hz128 hv128 => ?_); obtain ⟨xs, xe, xg, rfl, ys, ye, yg, z1, z2, z3⟩ := hv128)) <;> (refine Rn (xSW rfl rfl rfl rfl ?_)) <;> (refine Ra rfl (X_mv rfl ?_)) <;> (refine R_nil ?_))) <;> ((refine thenQ_nrm ?_; (refine W_ret ?_))))))))))))))))))))))))))))
  <;> (refine fn_ret (rA rfl rfl (Res.tmp rfl Res.nil)) ?_)
  all_goals first
    | exact Upd.nil ⟨rfl, .inl ⟨hA, rfl⟩⟩
    | exact Upd.nil ⟨rfl, .inr (.inl ⟨hA, hAb, hL, rfl⟩)⟩
    | exact Upd.nil ⟨rfl, .inr (.inr (.inl ⟨hA, hAb, hL, by unfold eitherOv; omega, rfl⟩))⟩
    | exact Upd.nil ⟨rfl, .inr (.inr (.inr ⟨hA, hAb, hL, hno, _, rfl, xs, xe, xg, rfl, ys.le ZC.le, ye.le ZC.le, yg.le ZC.le, z1, z2, z3⟩))⟩
set_option maxHeartbeats 4000000 in
theorem EitherR_ok (lo : Nat) {Z : Vw} {v u : Value} {a b : Au} (ha : AuV Z v a) (hb : AuV Z u b) (hA : isAutoP a) (hAb : isAutoP b) : CallP F lo 50 [v, u] Z fun r _ => ∃ q, r = .bool q ∧ (q = true ↔ eitherOv a b) := by
  have hS0 := hA.1
  have hS1 := hA.2.1
  have hL0 := hA.2.2.1
  have hL1 := hA.2.2.2.1
  have hedl := hA.2.2.2.2.1
  have hrst := hA.2.2.2.2.2.1
  have hren := hA.2.2.2.2.2.2.1
  have hstl := rising_len hrst hS0
  have henl := rising_len hren hS0
  have hedi := edsIn.of hA
  have hS0b := hAb.1
  have hS1b := hAb.2.1
  have hL0b := hAb.2.2.1
  have hL1b := hAb.2.2.2.1
  have hedlb := hAb.2.2.2.2.1
  have hrstb := hAb.2.2.2.2.2.1
  have hrenb := hAb.2.2.2.2.2.2.1
  have hstlb := rising_len hrstb hS0b
  have henlb := rising_len hrenb hS0b
  have hedib := edsIn.of hAb
  have hV := ha
  obtain ⟨vs, ve, vg, rfl, hs, he, hg, q1, q2, q3⟩ := ha
  obtain ⟨us, ue, ug, rfl, ks, ke, kg, p1, p2, p3⟩ := hb
  refine FnP (fn := c50) rfl rfl rfl ?_
  (refine W_seq ?_; (refine W_rgn ?_; ((refine Ra rfl (xBox rfl (fun b2 => ?_))) <;> (refine Ra rfl (xBox rfl (fun b3 => ?_))) <;> (refine Ra rfl (X_mv rfl ?_)) <;> (refine R_nil ?_))) <;> ((refine thenQ_nrm ?_; (refine W_seq ?_; (refine W_rgn ?_; ((refine Ra rfl (X_faddr rfl ?_)) <;> (refine Ra rfl (X_load (lB rfl rfl) ?_)) <;> (refine Ra rfl (X_faddr rfl ?_)) <;> (refine Ra rfl (X_load (lB rfl rfl) ?_)) <;> (refine Ra rfl (X_addI rfl rfl (by omega) (by omega) ?_)) <;> (refine Ra rfl (X_gtr rfl rfl (fun _ => ?_) (fun _ => ?_))) <;> (refine Ra rfl (X_mv rfl ?_)) <;> (first | (refine Rb rfl rfl (X_faddr rfl ?_)) | (refine Rc rfl rfl ?_)) <;> (first | (refine Rb rfl rfl (X_load (lB rfl rfl) ?_)) | (refine Rc rfl rfl ?_)) <;> (first | (refine Rb rfl rfl (xLen rfl ?_)) | (refine Rc rfl rfl ?_)) <;> (first | (refine Rb rfl rfl (X_faddr rfl ?_)) | (refine Rc rfl rfl ?_)) <;> (first | (refine Rb rfl rfl (X_load (lB rfl rfl) ?_)) | (refine Rc rfl rfl ?_)) <;> (first | (refine Rb rfl rfl (xLen rfl ?_)) | (refine Rc rfl rfl ?_)) <;> (first | (refine Rb rfl rfl (X_addI rfl rfl (by omega) (by omega) ?_)) | (refine Rc rfl rfl ?_)) <;> (first | (refine Rb rfl rfl (X_gtr rfl rfl (fun _ => ?_) (fun _ => ?_))) | (refine Rc rfl rfl ?_)) <;> (first | (refine Ra rfl (X_pickT rfl rfl ?_)) | (refine Ra rfl (X_pickF rfl rfl ?_))) <;> (refine Ra rfl (X_mv rfl ?_)) <;> (refine R_nil ?_))) <;> ((refine thenQ_nrm ?_; (refine W_ret ?_)))))))
  <;> (refine fnP_ret (Res.tmp rfl Res.nil) ?_)
  all_goals exact ⟨_, rfl, by unfold eitherOv; simp; omega⟩
end Go.Proofs.Ytbjgnogcjglcoaa.Hm.V
