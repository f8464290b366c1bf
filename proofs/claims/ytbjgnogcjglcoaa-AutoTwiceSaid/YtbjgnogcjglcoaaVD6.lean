import Derived.Test.YtbjgnogcjglcoaaHF
import Derived.Test.YtbjgnogcjglcoaaA6
import Derived.Test.YtbjgnogcjglcoaaVC2
namespace Go.Proofs.Ytbjgnogcjglcoaa.Hm.V
open Go
set_option linter.all false
set_option maxRecDepth 100000
attribute [local irreducible] X S R D W Call Upd Rds Rck Sees Res Cel CallP fnQ
theorem idxT_take {l : List Bool} {i : Nat} (h : i < l.length) : idxT (l.take (i + 1)) = idxT (l.take i) ++ (if l.getD i default = true then [(i : Int)] else []) := by
  rw [List.take_succ, getD_at h]
  show idxT (_ ++ [_]) = _
  rw [idxT_snoc, List.length_take, Nat.min_eq_left (by omega)]
theorem edsOf_tlen {n : Nat} {rows : List (List Int)} (h : wideR n rows) (i : Nat) : (edsOf (rows.take i)).length ≤ rows.length * n := by
  rw [edsOf_len (n := n) _ (fun r hr => h r (List.mem_of_mem_take hr)), List.length_take]
  exact Nat.mul_le_mul_right _ (Nat.min_le_right _ _)
theorem idxT_tlen (l : List Bool) (i : Nat) : (idxT (l.take i)).length ≤ l.length := Nat.le_trans (idxT_len _) (by rw [List.length_take]; exact Nat.min_le_right _ _)
set_option maxHeartbeats 4000000 in
theorem table_ok (lo : Nat) {Z : Vw} {vto ven : Value} {L : Int} {rows : List (List Int)} {en : List Bool} (hrw : RowsZ Z vto rows) [hen : Fz Z 1 ven (en.map cB)] (hT : TabOK L rows en) : CallP F lo 70 [.agg ⟨[vto, ven]⟩, .int .i64 L] Z fun r Z' => AuV Z' r (tabAu L rows en) := by
  obtain ⟨ws, hws, hwl, hwr⟩ := hrw.at
  have hel := hT.enl
  have hpos := hT.pos
  have hl256 := hT.len
  have hL1 := hT.l1
  have hL2 := hT.l2
  have hbig := hT.big
  refine FnP (fn := c70) rfl rfl rfl ?_
  (refine W_seq ?_; (refine W_rgn ?_; ((refine Ra rfl (xBox rfl (fun b2 => ?_))) <;> (refine Ra rfl (X_alloc (fun b4 => ?_))) <;> (refine R_nil ?_))) <;> ((refine thenQ_nrm ?_; (refine W_seq ?_; (refine W_rgn ?_; ((refine Ra rfl (X_faddr rfl ?_)) <;> (refine Ra rfl (X_load (lB rfl rfl) ?_)) <;> (refine Ra rfl (xLen rfl ?_); (rw [hwl])) <;> (refine Ra rfl (X_mv rfl ?_)) <;> (refine Ra rfl (X_bsliceC (pCons rfl Parts.nil) rfl rfl rfl (fun v14 => ?_))) <;> (refine Ra rfl (X_buildC (pCons rfl (pCons rfl (pCons rfl Parts.nil))) rfl ?_)) <;> (refine Ra rfl (X_alloc (fun b5 => ?_))) <;> (refine Rn (xSW rfl rfl rfl rfl ?_)) <;> (refine R_nil ?_))) <;> ((refine thenQ_nrm ?_; (refine W_seq ?_; (refine W_seq ?_; (refine W_rgn ?_; ((refine Ra rfl (X_faddr rfl ?_)) <;> (refine Ra rfl (X_load (lB rfl rfl) ?_)) <;> (refine Ra rfl (xLen rfl ?_); (rw [hwl])) <;> (refine Ra rfl (X_mv rfl ?_)) <;> (refine R_nil ?_))) <;> ((refine thenQ_nrm ?_; (refine W_block ?_; ((
      refine wLoop (fun p : Nat × Value × Value => match p with | (i, wen, wed) => [(19, .int .i64 (i : Nat))]) (fun p => match p with | (i, wen, wed) => [.box b5 [.int .i64 (rows.length : Int), .int .i64 L, v14, wen, wed], .gro wed 3 ((edsOf (rows.take i)).map Ed.c), .gro wen 1 ((idxT (en.take i)).map cI), .box b2 [vto, ven], .arr v14 1 1 [[.int .i64 0]], .box b4 [.int .i64 0, .int .i64 0, .slice none 0 0, .slice none 0 0, .slice none 0 0]]) (fun p _ => match p with | (i, _) => i ≤ rows.length) (fun p => match p with | (i, _) => rows.length - i) (0, .slice none 0 0, .slice none 0 0) (by repeat' (first | exact trivial | exact rfl | constructor))
        (Upd.gro0 (e := 1) (by decide) (Upd.gro0 (e := 3) (by decide) (Upd.done ⟨Nat.zero_le _, hB rfl (hG (by simp [edsOf]) (hG (by simp [idxT]) (hB rfl (hR rfl (hB rfl Has.nil)))))⟩))) ?_
      rintro ⟨i, wen, wed⟩ Z1 hz1 hp
      have hp : i ≤ rows.length := hp
      have htl := edsOf_tlen hT.wide i
      have hil := idxT_tlen en i
      have hmem : i < rows.length → rows.getD i default ∈ rows := fun h => by rw [getD_eq h]; exact List.getElem_mem _
      have hrl : i < rows.length → (rows.getD i default).length = L.toNat := fun h => hT.wide _ (hmem h)) <;> (refine W_seq ?_; (refine W_rgn ?_; ((refine Ra rfl (X_lss rfl rfl (fun _ => ?_) (fun _ => ?_))) <;> (refine R_nil ?_))) <;> ((refine thenQ_nrm ?_; (refine W_seq ?_; (refine W_cond rfl (fun ht => ?_) (fun ht => ?_) <;> (first | exact absurd ht (by decide) | (refine W_skip ?_) | (refine W_exit ?_))) <;> (first | refine thenQ_ext ?_ | (refine thenQ_nrm ?_; (refine W_seq ?_; (refine W_block ?_; (refine W_seq ?_; (refine W_rgn ?_; ((refine Ra rfl (X_mv rfl ?_)) <;> (refine Ra rfl (xIa rfl rfl (by omega) (by omega) ?_)) <;> (refine Ra rfl (X_load (lE0 rfl (by omega) rfl) ?_); (have hrow := hwr i (by omega))) <;> (refine Ra rfl (X_mv rfl ?_)) <;> (refine Ra rfl (X_mv rfl ?_)) <;> (refine R_nil ?_))) <;> ((refine thenQ_nrm ?_; (refine W_seq ?_; (refine W_seq ?_; (refine W_rgn ?_; ((refine Ra rfl (X_faddr rfl ?_)) <;> (refine Ra rfl (X_load (lB rfl rfl) ?_)) <;> (refine Ra rfl (X_mv rfl ?_)) <;> (refine Ra rfl (xIa rfl rfl (by omega) (by omega) ?_)) <;> (refine Ra rfl (X_load (lE0 rfl (by omega) rfl) ?_); (cases hb : en.getD i default)) <;> (refine R_nil ?_))) <;> ((refine thenQ_nrm ?_; (refine W_cond rfl (fun ht => ?_) (fun ht => ?_) <;> (first | exact absurd ht (by decide) | (refine W_rgn ?_; ((refine Ra rfl (X_faddr rfl ?_)) <;> (refine Ra rfl (X_load (lB rfl rfl) ?_)) <;> (refine Ra rfl (X_mv rfl ?_)) <;> (refine Ra rfl (X_bsliceC (pCons rfl Parts.nil) rfl rfl rfl (fun v32 => ?_))) <;> (refine Ra rfl (xApGm (fe := cI) (i : Int) rfl rfl rfl (by omega) (fun v33 => ?_))) <;> (refine Ra rfl (X_faddr rfl ?_)) <;> (refine Rn (xSB rfl rfl rfl rfl rfl ?_)) <;> (refine R_nil ?_))) | (refine W_skip ?_)))))) <;> ((refine thenQ_nrm ?_; (refine W_seq ?_; (refine W_rgn ?_; ((refine Ra rfl (X_mv rfl ?_)) <;> (refine Ra rfl (xLen rfl ?_); (rw [hrl (by omega)])) <;> (refine Ra rfl (X_mv rfl ?_)) <;> (refine R_nil ?_))) <;> ((refine thenQ_nrm ?_; (refine W_block ?_; ((
      refine wLoop (fun p : Nat × Value × Value => match p with | (j, wed, wen) => [(37, .int .i64 (j : Nat))]) (fun p => match p with | (j, wed, wen) => [.box b5 [.int .i64 (rows.length : Int), .int .i64 L, v14, wen, wed], .gro wed 3 ((edsOf (rows.take i) ++ edsRow i ((rows.getD i default).take j)).map Ed.c), .gro wen 1 ((idxT (en.take (i + 1))).map cI), .box b2 [vto, ven], .arr v14 1 1 [[.int .i64 0]], .box b4 [.int .i64 0, .int .i64 0, .slice none 0 0, .slice none 0 0, .slice none 0 0]]) (fun p _ => match p with | (j, _) => j ≤ L.toNat) (fun p => match p with | (j, _) => L.toNat - j) (0, wed, _) (by repeat' (first | exact trivial | exact rfl | constructor))
        (Upd.done ⟨Nat.zero_le _, hB rfl (hG (by simp [edsRow]) (hG (by rw [idxT_take (by omega), hb]; first | rfl | simp) (hB rfl (hR rfl (hB rfl Has.nil)))))⟩) ?_
      rintro ⟨j, wed, wen⟩ Z2 hz2 hj
      have hj : j ≤ L.toNat := hj
      have hjl : (edsOf (rows.take i) ++ edsRow i ((rows.getD i default).take j)).length ≤ 200000 + 1024 := by
        have h2 := hT.l2
        rw [List.length_append, edsRow_len, List.length_take]; omega) <;> (refine W_seq ?_; (refine W_rgn ?_; ((refine Ra rfl (X_lss rfl rfl (fun _ => ?_) (fun _ => ?_))) <;> (refine R_nil ?_))) <;> ((refine thenQ_nrm ?_; (refine W_seq ?_; (refine W_cond rfl (fun ht => ?_) (fun ht => ?_) <;> (first | exact absurd ht (by decide) | (refine W_skip ?_) | (refine W_exit ?_))) <;> (first | refine thenQ_ext ?_ | (refine thenQ_nrm ?_; (refine W_seq ?_; (refine W_block ?_; (refine W_seq ?_; (refine W_rgn ?_; ((refine Ra rfl (X_mv rfl ?_)) <;> (refine Ra rfl (xIa rfl rfl (by omega) (by omega) ?_)) <;> (refine Ra rfl (X_load (lE0 rfl (by omega) rfl) ?_)) <;> (refine Ra rfl (X_mv rfl ?_)) <;> (refine Ra rfl (X_mv rfl ?_)) <;> (refine R_nil ?_))) <;> ((refine thenQ_nrm ?_; (refine W_rgn ?_; ((refine Ra rfl (X_faddr rfl ?_)) <;> (refine Ra rfl (X_load (lB rfl rfl) ?_)) <;> (refine Ra rfl (X_mv rfl ?_)) <;> (refine Ra rfl (X_mv rfl ?_)) <;> (refine Ra rfl (X_mv rfl ?_)) <;> (refine Ra rfl (X_buildC (pCons rfl (pCons rfl (pCons rfl Parts.nil))) rfl ?_)) <;> (refine Ra rfl (X_bsliceC (pCons rfl Parts.nil) rfl rfl rfl (fun v48 => ?_))) <;> (refine Ra rfl (xApGm (⟨(i : Int), (j : Int), (rows.getD i default).getD j default⟩ : Ed) rfl rfl rfl (by omega) (fun v49 => ?_))) <;> (refine Ra rfl (X_faddr rfl ?_)) <;> (refine Rn (xSB rfl rfl rfl rfl rfl ?_)) <;> (refine R_nil ?_)))))) <;> (refine blockQ_nrm ?_)) <;> ((refine thenQ_nrm ?_; (refine W_rgn ?_; ((refine Ra rfl (X_addI rfl rfl (by omega) (by omega) ?_)) <;> (refine Ra rfl (X_mv rfl ?_)) <;> (refine R_nil ?_)))))))))))) <;> (first | refine thenQ_ext ?_ | (refine thenQ_nrm ?_; (
        refine Upd.done ⟨(j + 1, _, _), ?_, ?_, (by repeat' (first | exact trivial | exact rfl | constructor)), (hB rfl (hG ?_ (hG rfl (hB rfl (hR rfl (hB rfl Has.nil))))))⟩
        · show L.toNat - (j + 1) < L.toNat - j
          omega
        · show j + 1 ≤ L.toNat
          omega
        · rw [edsRow_take (by omega), List.append_assoc])))) <;> (refine blockQ_ext ?_))))))))))) <;> (refine blockQ_nrm ?_)) <;> ((refine thenQ_nrm ?_; (refine W_rgn ?_; ((refine Ra rfl (X_addI rfl rfl (by omega) (by omega) ?_)) <;> (refine Ra rfl (X_mv rfl ?_)) <;> (refine R_nil ?_)))))))))))) <;> (first | refine thenQ_ext ?_ | (refine thenQ_nrm ?_; (
        refine Upd.done ⟨(i + 1, _, _), ?_, ?_, (by repeat' (first | exact trivial | exact rfl | constructor)), (hB rfl (hG ?_ (hG ?_ (hB rfl (hR rfl (hB rfl Has.nil))))))⟩
        · show rows.length - (i + 1) < rows.length - i
          omega
        · show i + 1 ≤ rows.length
          omega
        · rw [edsOf_take (by omega), List.take_of_length_le (l := rows.getD i default) (by omega)]
        · rfl)))) <;> (refine blockQ_ext ?_))))) <;> ((refine thenQ_nrm ?_; (refine W_seq ?_; (refine W_rgn ?_; ((refine Ra rfl (X_load (lBA rfl rfl) ?_)) <;> (refine Rn (xSW rfl rfl rfl rfl ?_)) <;> (refine R_nil ?_))) <;> ((refine thenQ_nrm ?_; (refine W_ret ?_)))))))))))))
  <;> (refine fn_ret (rA rfl rfl Res.nil) ?_)
  have e1 : rows.take i = rows := List.take_of_length_le (by omega)
  have e2 : en.take i = en := List.take_of_length_le (by omega)
  rw [e1] at htl ⊢
  rw [e2] at hil ⊢
  exact uA v14 fun Z7 hz7 f1 => uG wen fun Z8 hz8 f2 => uG wed fun Z9 hz9 f3 => Upd.nil ⟨rfl, v14, wen, wed, rfl, f1.le ZC.le, f2.le ZC.le, f3, (by simp [tabAu]), (by simp only [tabAu]; omega), (by simp only [tabAu]; omega)⟩
theorem RowsZ.le {Z Z' : Vw} {v : Value} {rows : List (List Int)} (h : RowsZ Z v rows) (hz : Z.le Z') : RowsZ Z' v rows := by
  obtain ⟨ws, h1, h2, h3⟩ := h
  exact ⟨ws, h1.le hz, h2, fun i hi => (h3 i hi).le hz⟩
theorem TabOK.ends {L : Int} {rows : List (List Int)} {en en' : List Bool} (h : TabOK L rows en) (he : en'.length = en.length) : TabOK L rows en' := ⟨h.pos, h.len, he.trans h.enl, h.l1, h.l2, h.big, h.wide, h.ins⟩
def detAQ (a : Au) (r : Value) (Z : Vw) (f : List Nat → Au) : Prop :=
  (¬ isAutoP a ∧ r = .tuple ⟨[noAuV, .int .i64 270]⟩) ∨ (isAutoP a ∧ match detS a.ed a.L.toNat 257 0 [setOf a.st] with
    | none => r = .tuple ⟨[noAuV, .int .i64 5]⟩
    | some ord => DetP a ord ∧ ∃ v, r = .tuple ⟨[v, .int .i64 0]⟩ ∧ AuV Z v (f ord))
def notP (en : List Bool) (i : Nat) : List Bool := (en.take i).map (fun b => !b) ++ en.drop i
theorem notP_len (en : List Bool) (i : Nat) : (notP en i).length = en.length := by simp [notP]; omega
theorem notP_at {en : List Bool} {i : Nat} (h : i < en.length) : (notP en i).getD i default = en.getD i default := by
  unfold notP
  rw [getD_app_right (by simp; omega), List.length_map, List.length_take, Nat.min_eq_left (by omega), Nat.sub_self, List.getD_eq_getElem?_getD, List.getElem?_drop, Nat.add_zero, List.getD_eq_getElem?_getD]
theorem notP_step {en : List Bool} {i : Nat} (h : i < en.length) : (notP en i).set i (!(en.getD i default)) = notP en (i + 1) := by
  unfold notP
  rw [List.set_append_right _ _ (by simp; omega), List.length_map, List.length_take, Nat.min_eq_left (by omega), Nat.sub_self, List.drop_eq_getElem_cons h, List.set_cons_zero, List.take_succ, getD_at h, getD_eq h]
  simp only [Option.toList, List.map_append, List.map_cons, List.map_nil, List.append_assoc, List.singleton_append]
theorem notP_all (en : List Bool) : notP en en.length = en.map fun b => !b := by simp [notP]
def notAu (a : Au) (ord : List Nat) : Au := tabAu a.L (rowsS a ord) ((endsS a ord).map fun b => !b)
set_option maxHeartbeats 4000000 in
theorem Not_ok (lo : Nat) {Z : Vw} {v : Value} {a : Au} (ha : AuV Z v a) : CallP F lo 30 [v] Z fun r Z' => detAQ a r Z' (notAu a) := by
  unfold detAQ
  have hV := ha
  obtain ⟨vs, ve, vg, rfl, hs, he, hg, q1, q2, q3⟩ := ha
  refine FnP (fn := c30) rfl rfl rfl ?_
  (refine W_seq ?_; (refine W_rgn ?_; ((refine Ra rfl (xBox rfl (fun b1 => ?_))) <;> (refine Ra rfl (X_alloc (fun b2 => ?_))) <;> (refine Ra rfl (X_mv rfl ?_)) <;> (refine R_nil ?_))) <;> ((refine thenQ_nrm ?_; (refine W_seq ?_; (refine W_seq ?_; (refine W_rgn ?_; ((refine Ra rfl (X_load (lBA rfl rfl) ?_)) <;> (refine Ra rfl (xP (Check_ok lo (by first | assumption | exact AuV.le (by assumption) ZC.le)) rfl (fun _ Z9 hz9 hq => ?_)); (obtain ⟨c, rfl, hc⟩ := hq; rcases hc with ⟨rfl, hA⟩ | ⟨rfl, hA⟩)) <;> (refine Ra rfl (X_mv rfl ?_)) <;> (refine R_nil ?_))) <;> ((refine thenQ_nrm ?_; (refine W_seq ?_; (refine W_rgn ?_; ((refine Ra rfl (X_mv rfl ?_)) <;> (first | (refine Ra rfl (X_bin (v := .bool true) rfl rfl rfl ?_)) | (refine Ra rfl (X_bin (v := .bool false) rfl rfl rfl ?_))) <;> (refine R_nil ?_))) <;> ((refine thenQ_nrm ?_; (refine W_cond rfl (fun ht => ?_) (fun ht => ?_) <;> (first | exact absurd ht (by decide) | (refine W_seq ?_; (refine W_rgn ?_; ((refine Ra rfl (X_buildC Parts.nil rfl ?_)) <;> (refine Ra rfl (X_mv rfl ?_)) <;> (refine Rn (xSW rfl rfl rfl rfl ?_)) <;> (refine Ra rfl (X_mv rfl ?_)) <;> (refine R_nil ?_))) <;> ((refine thenQ_nrm ?_; (refine W_ret ?_)))) | (refine W_skip ?_))))))))) <;> (first | refine thenQ_ret ?_ | (refine thenQ_nrm ?_; (refine W_seq ?_; (refine W_rgn ?_; ((refine Ra rfl (X_load (lBA rfl rfl) ?_)) <;> (refine Ra rfl (xC (sets_ok lo (by first | assumption | exact AuV.le (by assumption) ZC.le) hA) rfl (fun w16 Z16 O16 hz16 hq O2 hO => ?_)); (generalize hD : detS a.ed a.L.toNat 257 0 [setOf a.st] = D at hq ⊢; rcases D with _ | ord <;> first | (obtain ⟨rfl, rfl⟩ := hq; simp only [List.nil_append] at hO; subst hO) | (obtain ⟨hP, vto, ven, rfl, rfl, hrw⟩ := hq; simp only [List.cons_append, List.nil_append] at hO; subst hO; obtain ⟨ws, hws, hwl, hwr⟩ := hrw.at; have hT := hP.tab hA))) <;> (refine Ra rfl (X_mv rfl ?_)) <;> (refine Ra rfl (X_extract rfl rfl ?_)) <;> (refine Ra rfl (X_extract rfl rfl ?_)) <;> (refine Ra rfl (X_alloc (fun b5 => ?_))) <;> (refine Rn (xSW rfl rfl rfl rfl ?_)) <;> (refine Ra rfl (X_mv rfl ?_)) <;> (refine R_nil ?_))) <;> ((refine thenQ_nrm ?_; (refine W_seq ?_; (refine W_seq ?_; (refine W_rgn ?_; ((refine Ra rfl (X_mv rfl ?_)) <;> (first | (refine Ra rfl (X_bin (v := .bool true) rfl rfl rfl ?_)) | (refine Ra rfl (X_bin (v := .bool false) rfl rfl rfl ?_))) <;> (refine R_nil ?_))) <;> ((refine thenQ_nrm ?_; (refine W_cond rfl (fun ht => ?_) (fun ht => ?_) <;> (first | exact absurd ht (by decide) | (refine W_seq ?_; (refine W_rgn ?_; ((refine Ra rfl (X_buildC Parts.nil rfl ?_)) <;> (refine Ra rfl (X_mv rfl ?_)) <;> (refine Rn (xSW rfl rfl rfl rfl ?_)) <;> (refine Ra rfl (X_mv rfl ?_)) <;> (refine R_nil ?_))) <;> ((refine thenQ_nrm ?_; (refine W_ret ?_)))) | (refine W_skip ?_)))))) <;> (first | refine thenQ_ret ?_ | (refine thenQ_nrm ?_; (refine W_seq ?_; (refine W_seq ?_; (refine W_rgn ?_; ((refine Ra rfl (X_faddr rfl ?_)) <;> (refine Ra rfl (X_load (lB rfl rfl) ?_)) <;> (refine Ra rfl (xLen rfl ?_)) <;> (refine Ra rfl (X_mv rfl ?_)) <;> (refine R_nil ?_))) <;> ((refine thenQ_nrm ?_; (refine W_block ?_; ((
      refine wLoop (fun i : Nat => [(26, .int .i64 i)]) (fun i => [.box b5 [vto, ven], .gro ven 1 ((notP (endsS a ord) i).map cB), .box b2 [.int .i64 0, .int .i64 0, .slice none 0 0, .slice none 0 0, .slice none 0 0], .box b1 [.int .i64 a.S, .int .i64 a.L, vs, ve, vg]]) (fun i Zi => i ≤ (endsS a ord).length) (fun i => (endsS a ord).length - i) 0 (by repeat' (first | exact trivial | exact rfl | constructor)) (Upd.done ⟨Nat.zero_le _, (hB rfl (hG (by simp [notP]) (hB rfl (hB rfl Has.nil))))⟩) ?_
      intro i Z1 hz1 hp
      have hnl := notP_len (endsS a ord) i
      have hel := hT.enl
      have hl256 := hT.len) <;> (refine W_seq ?_; (refine W_rgn ?_; ((refine Ra rfl (X_lss rfl rfl (fun _ => ?_) (fun _ => ?_))) <;> (refine R_nil ?_))) <;> ((refine thenQ_nrm ?_; (refine W_seq ?_; (refine W_cond rfl (fun ht => ?_) (fun ht => ?_) <;> (first | exact absurd ht (by decide) | (refine W_skip ?_) | (refine W_exit ?_))) <;> (first | refine thenQ_ext ?_ | (refine thenQ_nrm ?_; (refine W_seq ?_; (refine W_block ?_; (refine W_seq ?_; (refine W_rgn ?_; ((refine Ra rfl (X_mv rfl ?_)) <;> (refine Ra rfl (X_mv rfl ?_)) <;> (refine R_nil ?_))) <;> ((refine thenQ_nrm ?_; (refine W_drw ?_; ((refine Da rfl rfl (X_faddr rfl ?_)) <;> (refine Da rfl rfl (X_load (lB rfl rfl) ?_)) <;> (refine Da rfl rfl (X_mv rfl ?_)) <;> (refine Da rfl rfl (X_faddr rfl ?_)) <;> (refine Da rfl rfl (X_load (lB rfl rfl) ?_)) <;> (refine Da rfl rfl (X_mv rfl ?_)) <;> (refine Da rfl rfl (xIa rfl rfl (by omega) (by omega) ?_)) <;> (refine Da rfl rfl (X_load (lE0 rfl (by omega) rfl) ?_)) <;> (refine Da rfl rfl (X_not rfl ?_)) <;> (refine Da rfl rfl (xIa rfl rfl (by omega) (by omega) ?_)) <;> (refine Dn rfl (xSG rfl rfl rfl (by omega) rfl ?_)) <;> (refine D_nil ?_)))))) <;> (refine blockQ_nrm ?_)) <;> ((refine thenQ_nrm ?_; (refine W_rgn ?_; ((refine Ra rfl (X_addI rfl rfl (by omega) (by omega) ?_)) <;> (refine Ra rfl (X_mv rfl ?_)) <;> (refine R_nil ?_)))))))))))) <;> (first | refine thenQ_ext ?_ | (refine thenQ_nrm ?_; (
        refine Upd.done ⟨i + 1, by omega, by omega, (by repeat' (first | exact trivial | exact rfl | constructor)), (hB rfl (hG ?_ (hB rfl (hB rfl Has.nil))))⟩
        rw [notP_at (by omega), ← notP_step (by omega), List.map_set]
        rfl)))) <;> (refine blockQ_ext ?_))))) <;> ((refine thenQ_nrm ?_; (refine W_seq ?_; (refine W_rgn ?_; ((refine Ra rfl (X_load (lBA rfl rfl) ?_)) <;> (refine Ra rfl (X_faddr rfl ?_)) <;> (refine Ra rfl (X_load (lB rfl rfl) ?_)) <;> (refine Ra rfl (X_upd (uG ven fun Z43a hz43a hf43a => Upd.done (xP (table_ok lo (hrw.le ZC.le) (hT.ends (notP_len _ i))) rfl (fun r43 Z43 hz43 hv43 => ?_)))); (obtain ⟨xs, xe, xg, rfl, ys, ye, yg, z1, z2, z3⟩ := hv43)) <;> (refine Rn (xSW rfl rfl rfl rfl ?_)) <;> (refine Ra rfl (X_mv rfl ?_)) <;> (refine R_nil ?_))) <;> ((refine thenQ_nrm ?_; (refine W_ret ?_)))))))))))))))))))
  <;> (refine fnP_ret (rA rfl rfl (Res.tmp rfl Res.nil)) ?_)
  all_goals first
    | exact .inl ⟨hA, rfl⟩
    | exact .inr ⟨hA, rfl⟩
    | (refine .inr ⟨hA, hP, _, rfl, ?_⟩
       have hi : i = (endsS a ord).length := by omega
       subst hi
       rw [notP_all] at ye z2
       exact ⟨xs, xe, xg, rfl, ys.le ZC.le, ye.le ZC.le, yg.le ZC.le, z1, z2, z3⟩)
end Go.Proofs.Ytbjgnogcjglcoaa.Hm.V
