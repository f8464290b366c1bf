/- Of layer 27: counting; ref27.Count. -/
import Derived.Test.YtbjgnogcjglcoaaHF
import Derived.Test.YtbjgnogcjglcoaaA6
import Derived.Test.YtbjgnogcjglcoaaVD5
namespace Go.Proofs.Ytbjgnogcjglcoaa.Hm.V
open Go
set_option linter.all false
set_option maxRecDepth 100000
attribute [local irreducible] X S R D W Call Upd Rds Rck Sees Res Cel CallP fnQ
def Many : Nat := 1152921504606846977
def cN (n : Nat) : List Value := [.int .i64 (n : Int)]
def incC (now acc : List Nat) (e : Ed) : List Nat := acc.set e.f.toNat (min (acc.getD e.f.toNat default + now.getD e.t.toNat default) Many)
def stepC (n : Nat) (eds : List Ed) (now : List Nat) : List Nat := eds.foldl (incC now) (List.replicate n 0)
def cntC (n : Nat) (eds : List Ed) (v0 : List Nat) : Nat → List Nat
  | 0 => v0
  | k + 1 => stepC n eds (cntC n eds v0 k)
def initC (l : List Bool) : List Nat := l.map fun b => if b = true then 1 else 0
def okV (n : Nat) (v : List Nat) : Prop := v.length = n ∧ ∀ i, i < n → v.getD i default ≤ Many
theorem okV.zero (n : Nat) : okV n (List.replicate n 0) := ⟨by simp, fun i hi => by rw [getD_eq (by simpa using hi)]; simp⟩
theorem okV.inc {n : Nat} {now acc : List Nat} (e : Ed) (h : okV n acc) : okV n (incC now acc e) := by
  refine ⟨by simp [incC, h.1], fun i hi => ?_⟩
  rw [getD_eq (by simp [incC, h.1]; exact hi)]
  simp only [incC, List.getElem_set]
  split
  · exact Nat.min_le_right _ _
  · have := h.2 i hi; rw [getD_eq (by rw [h.1]; exact hi)] at this; exact this
theorem okV.fold {n : Nat} {now : List Nat} : ∀ {eds : List Ed} {acc : List Nat}, okV n acc → okV n (eds.foldl (incC now) acc)
  | [], _, h => h
  | e :: es, _, h => okV.fold (eds := es) (h.inc e)
theorem okV.cnt {n : Nat} {eds : List Ed} {v0 : List Nat} (h : okV n v0) : ∀ k, okV n (cntC n eds v0 k)
  | 0 => h
  | k + 1 => (okV.zero n).fold
theorem okV.init (l : List Bool) : okV l.length (initC l) := ⟨by simp [initC], fun i hi => by
  rw [getD_eq (by simpa [initC] using hi)]
  simp only [initC, List.getElem_map]
  split <;> decide⟩
/-- The first i entries told. -/
def partI (l : List Bool) (i : Nat) : List Nat := initC (l.take i) ++ List.replicate (l.length - i) 0
theorem partI_len {l : List Bool} {i : Nat} (h : i ≤ l.length) : (partI l i).length = l.length := by simp [partI, initC]; omega
theorem partI_all (l : List Bool) : partI l l.length = initC l := by simp [partI]
theorem partI_zero (l : List Bool) : partI l 0 = List.replicate l.length 0 := by simp [partI, initC]
theorem partI_step {l : List Bool} {i : Nat} (h : i < l.length) : partI l (i + 1) = (partI l i).set i (if l.getD i default = true then 1 else 0) := by
  have hl : (initC (l.take i)).length = i := by simp [initC]; omega
  have e1 : l.length - i = (l.length - (i + 1)) + 1 := by omega
  unfold partI
  rw [List.set_append_right _ _ (by omega), hl, Nat.sub_self, e1, List.replicate_succ, List.set_cons_zero, List.take_succ, getD_at h]
  simp [initC]
theorem partI_no {l : List Bool} {i : Nat} (h : i < l.length) (hb : l.getD i default = false) : partI l (i + 1) = partI l i := by
  have hl : (partI l i).length = l.length := partI_len (by omega)
  rw [partI_step h, hb]
  apply List.ext_getElem
  · simp
  · intro j h1 h2
    rw [List.getElem_set]
    split
    · rename_i e
      subst e
      have e2 : (partI l i)[i] = 0 := by
        simp only [partI]
        rw [List.getElem_append_right (by simp [initC]; omega)]
        simp
      rw [e2]; rfl
    · rfl
/-- The same vector, out of the numbers of the ends. -/
def putsC (n : Nat) (ks : List Int) : List Nat := ks.foldl (fun acc k => acc.set k.toNat 1) (List.replicate n 0)
theorem putsC_take {n : Nat} {ks : List Int} {i : Nat} (h : i < ks.length) : putsC n (ks.take (i + 1)) = (putsC n (ks.take i)).set (ks.getD i default).toNat 1 := foldl_take h
theorem putsC_len (n : Nat) (ks : List Int) : (putsC n ks).length = n := by
  unfold putsC
  have key : ∀ (ks : List Int) (acc : List Nat), (ks.foldl (fun acc k => acc.set k.toNat 1) acc).length = acc.length := by
    intro ks
    induction ks with
    | nil => intro acc; rfl
    | cons k ks ih => intro acc; rw [List.foldl_cons, ih]; simp
  rw [key]; simp
theorem putsC_app (n : Nat) (ks : List Int) (k : Int) : putsC n (ks ++ [k]) = (putsC n ks).set k.toNat 1 := by
  unfold putsC; rw [List.foldl_append]; rfl
theorem puts_init (l : List Bool) : ∀ m, putsC (l.length + m) (idxT l) = initC l ++ List.replicate m 0 :=
  snoc_ind (p := fun l => ∀ m, putsC (l.length + m) (idxT l) = initC l ++ List.replicate m 0) (fun m => by simp [putsC, idxT, initC]) (fun l b ih m => by
    have e := ih (m + 1)
    rw [List.length_append, List.length_singleton, show l.length + 1 + m = l.length + (m + 1) by omega, idxT_snoc]
    have e2 : initC (l ++ [b]) = initC l ++ [if b = true then 1 else 0] := by simp [initC]
    have hl : (initC l).length = l.length := by simp [initC]
    cases b
    · simp only [Bool.false_eq_true, if_false, List.append_nil] at e2 ⊢
      rw [e, e2, List.replicate_succ]; simp
    · simp only [if_true] at e2 ⊢
      rw [putsC_app, e, e2, Int.toNat_natCast, List.set_append_right _ _ (by omega), hl, Nat.sub_self, List.replicate_succ]; simp) l
theorem puts_ends (l : List Bool) : putsC l.length (idxT l) = initC l := by
  have := puts_init l 0
  simpa using this
/-- How many words of k letters, Many at most. -/
def many (a : Au) (k : Nat) : Nat := (cntC a.S.toNat a.ed (putsC a.S.toNat a.en) k).getD 0 default
theorem okV.puts (n : Nat) (ks : List Int) : okV n (putsC n ks) :=
  snoc_ind (p := fun ks => okV n (putsC n ks)) (okV.zero n) (fun l x h => by
    rw [putsC_app]
    refine ⟨by simp [h.1], fun i hi => ?_⟩
    rw [getD_eq (by simp [h.1]; exact hi)]
    simp only [List.getElem_set]
    split
    · decide
    · have := h.2 i hi; rw [getD_eq (by rw [h.1]; exact hi)] at this; exact this) ks
theorem many_tab {L : Int} {rows : List (List Int)} {en : List Bool} (h : TabOK L rows en) (k : Nat) : many (tabAu L rows en) k = (cntC rows.length (edsOf rows) (initC en) k).getD 0 default := by
  have : putsC rows.length (idxT en) = initC en := by rw [← h.enl]; exact puts_ends en
  simp only [many, tabAu, Int.toNat_natCast, this]
set_option maxHeartbeats 4000000 in
theorem add_ok (lo : Nat) {Z : Vw} {x y : Nat} (hx : x ≤ Many) (hy : y ≤ Many) : CallP F lo 69 [.int .i64 (x : Int), .int .i64 (y : Int)] Z fun r _ => r = .int .i64 ((min (x + y) Many : Nat) : Int) := by
  unfold Many at hx hy
  refine FnP (fn := c69) rfl rfl rfl ?_
  (refine W_seq ?_; (refine W_rgn ?_; ((refine Ra rfl (X_mv rfl ?_)) <;> (refine R_nil ?_))) <;> ((refine thenQ_nrm ?_; (refine W_seq ?_; (refine W_rgn ?_; ((refine Ra rfl (X_mv rfl ?_)) <;> (refine Ra rfl (X_mv rfl ?_)) <;> (refine Ra rfl (X_addI rfl rfl (by omega) (by omega) ?_)) <;> (refine Ra rfl (X_min rfl rfl ?_)) <;> (refine Ra rfl (X_mv rfl ?_)) <;> (refine R_nil ?_))) <;> ((refine thenQ_nrm ?_; (refine W_ret ?_)))))))
  <;> (refine fnP_ret (Res.tmp rfl Res.nil) ?_)
  show Value.int _ _ = _
  congr 1
  unfold Many
  omega
set_option maxHeartbeats 4000000 in
theorem CountR_ok (lo : Nat) {Z : Vw} {v : Value} {a : Au} {n : Nat} (ha : AuV Z v a) (hA : isAutoP a) (hS : 1 ≤ a.S) (hn : n ≤ 1000) : CallP F lo 29 [v, .int .i64 (n : Int)] Z fun r _ => r = .int .i64 ((many a n : Nat) : Int) := by
  obtain ⟨S0, S1, L0, L1, E1, hst, hen, hed⟩ := hA
  obtain ⟨vs, ve, vg, rfl, hs, he, hg, q1, q2, q3⟩ := ha
  refine FnP (fn := c29) rfl rfl rfl ?_
  (refine W_seq ?_; (refine W_rgn ?_; ((refine Ra rfl (xBox rfl (fun b2 => ?_))) <;> (refine Ra rfl (X_mv rfl ?_)) <;> (refine R_nil ?_))) <;> ((refine thenQ_nrm ?_; (refine W_seq ?_; (refine W_rgn ?_; ((refine Ra rfl (X_faddr rfl ?_)) <;> (refine Ra rfl (X_load (lB rfl rfl) ?_)) <;> (refine Ra rfl (xMk rfl rfl (by omega) (by omega) (by omega) rfl (fun v12 => ?_))) <;> (refine Ra rfl (X_mv rfl ?_)) <;> (refine R_nil ?_))) <;> ((refine thenQ_nrm ?_; (refine W_seq ?_; (refine W_seq ?_; (refine W_rgn ?_; ((refine Ra rfl (X_mv rfl ?_)) <;> (refine R_nil ?_))) <;> ((refine thenQ_nrm ?_; (refine W_block ?_; ((
      refine wLoop (fun i : Nat => [(6, .int .i64 i)]) (fun i => [.arr v12 1 a.S.toNat ((putsC a.S.toNat (a.en.take i)).map cN), .box b2 [.int .i64 a.S, .int .i64 a.L, vs, ve, vg]]) (fun i Zi => i ≤ a.en.length) (fun i => a.en.length - i) 0 (by repeat' (first | exact trivial | exact rfl | constructor)) (Upd.done ⟨Nat.zero_le _, (hR (by simp [putsC, cN]) (hB rfl Has.nil))⟩) ?_
      intro i Z1 hz1 hp
      have hel : i < a.en.length → 0 ≤ a.en.getD i default ∧ a.en.getD i default < a.S := fun h => by obtain ⟨y1, y2, _⟩ := hen i h; omega
      have hlen := putsC_len a.S.toNat (a.en.take i)) <;> (refine W_seq ?_; (refine W_seq ?_; (refine W_rgn ?_; ((refine Ra rfl (X_mv rfl ?_)) <;> (refine Ra rfl (X_faddr rfl ?_)) <;> (refine Ra rfl (X_load (lB rfl rfl) ?_)) <;> (refine Ra rfl (xLen rfl ?_)) <;> (refine Ra rfl (X_lss rfl rfl (fun _ => ?_) (fun _ => ?_))) <;> (refine R_nil ?_))) <;> ((refine thenQ_nrm ?_; (refine W_cond rfl (fun ht => ?_) (fun ht => ?_) <;> (first | exact absurd ht (by decide) | (refine W_skip ?_) | (refine W_exit ?_)))))) <;> (first | refine thenQ_ext ?_ | (refine thenQ_nrm ?_; (refine W_seq ?_; (refine W_block ?_; (refine W_rgn ?_; ((refine Ra rfl (X_mv rfl ?_)) <;> (refine Ra rfl (X_faddr rfl ?_)) <;> (refine Ra rfl (X_load (lB rfl rfl) ?_)) <;> (refine Ra rfl (X_mv rfl ?_)) <;> (refine Ra rfl (xIa rfl rfl (by omega) (by omega) ?_)) <;> (refine Ra rfl (X_load (lE0 rfl (by omega) rfl) ?_)) <;> (refine Ra rfl (xIa rfl rfl (by omega) (by omega) ?_)) <;> (refine Rn (xSA rfl rfl rfl (by omega) rfl ?_)) <;> (refine R_nil ?_))) <;> (refine blockQ_nrm ?_)) <;> ((refine thenQ_nrm ?_; (refine W_rgn ?_; ((refine Ra rfl (X_mv rfl ?_)) <;> (refine Ra rfl (X_addI rfl rfl (by omega) (by omega) ?_)) <;> (refine Ra rfl (X_mv rfl ?_)) <;> (refine R_nil ?_))))))))) <;> (first | refine thenQ_ext ?_ | (refine thenQ_nrm ?_; (
        refine Upd.done ⟨i + 1, by omega, by omega, (by repeat' (first | exact trivial | exact rfl | constructor)), (hR ?_ (hB rfl Has.nil))⟩
        rw [putsC_take (by omega), List.map_set]; rfl)))) <;> (refine blockQ_ext ?_))))) <;> ((refine thenQ_nrm ?_; (refine W_seq ?_; (refine W_seq ?_; (refine W_rgn ?_; ((refine Ra rfl (X_mv rfl ?_)) <;> (refine R_nil ?_))) <;> ((refine thenQ_nrm ?_; (refine W_block ?_; ((
      refine wLoop (fun p : Nat × Value => match p with | (k, v5) => [(7, .int .i64 (k : Nat)), (5, v5)]) (fun p => match p with | (k, v5) => [.arr v5 1 a.S.toNat ((cntC a.S.toNat a.ed (putsC a.S.toNat a.en) k).map cN), .box b2 [.int .i64 a.S, .int .i64 a.L, vs, ve, vg]]) (fun p _ => match p with | (k, _) => k ≤ n) (fun p => match p with | (k, _) => n - k) (0, v12) (by repeat' (first | exact trivial | exact rfl | constructor)) (Upd.done ⟨Nat.zero_le _, hR (by rw [List.take_of_length_le (by omega)]; rfl) (hB rfl Has.nil)⟩) ?_
      rintro ⟨k, v5⟩ Z2 hz2 hk
      have hk : k ≤ n := hk
      have hno : okV a.S.toNat (cntC a.S.toNat a.ed (putsC a.S.toNat a.en) k) := (okV.puts _ _).cnt k
      have hnl := hno.1) <;> (refine W_seq ?_; (refine W_seq ?_; (refine W_rgn ?_; ((refine Ra rfl (X_mv rfl ?_)) <;> (refine Ra rfl (X_mv rfl ?_)) <;> (refine Ra rfl (X_lss rfl rfl (fun _ => ?_) (fun _ => ?_))) <;> (refine R_nil ?_))) <;> ((refine thenQ_nrm ?_; (refine W_cond rfl (fun ht => ?_) (fun ht => ?_) <;> (first | exact absurd ht (by decide) | (refine W_skip ?_) | (refine W_exit ?_)))))) <;> (first | refine thenQ_ext ?_ | (refine thenQ_nrm ?_; (refine W_seq ?_; (refine W_block ?_; (refine W_seq ?_; (refine W_rgn ?_; ((refine Ra rfl (X_faddr rfl ?_)) <;> (refine Ra rfl (X_load (lB rfl rfl) ?_)) <;> (refine Ra rfl (xMk rfl rfl (by omega) (by omega) (by omega) rfl (fun v34 => ?_))) <;> (refine Ra rfl (X_mv rfl ?_)) <;> (refine R_nil ?_))) <;> ((refine thenQ_nrm ?_; (refine W_seq ?_; (refine W_seq ?_; (refine W_rgn ?_; ((refine Ra rfl (X_mv rfl ?_)) <;> (refine R_nil ?_))) <;> ((refine thenQ_nrm ?_; (refine W_block ?_; ((
      refine wLoop (fun i : Nat => [(9, .int .i64 i)]) (fun i => [.arr v34 1 a.S.toNat (((a.ed.take i).foldl (incC (cntC a.S.toNat a.ed (putsC a.S.toNat a.en) k)) (List.replicate a.S.toNat 0)).map cN), .arr v5 1 a.S.toNat ((cntC a.S.toNat a.ed (putsC a.S.toNat a.en) k).map cN), .box b2 [.int .i64 a.S, .int .i64 a.L, vs, ve, vg]]) (fun i Zi => i ≤ a.ed.length) (fun i => a.ed.length - i) 0 (by repeat' (first | exact trivial | exact rfl | constructor)) (Upd.done ⟨Nat.zero_le _, (hR (by simp [cN]) (hR rfl (hB rfl Has.nil)))⟩) ?_
      intro i Z1 hz1 hp
      have hel := hed i
      have hac : okV a.S.toNat ((a.ed.take i).foldl (incC (cntC a.S.toNat a.ed (putsC a.S.toNat a.en) k)) (List.replicate a.S.toNat 0)) := (okV.zero _).fold
      have hal := hac.1
      have hel : i < a.ed.length → 0 ≤ (a.ed.getD i default).f ∧ (a.ed.getD i default).f < a.S ∧ 0 ≤ (a.ed.getD i default).t ∧ (a.ed.getD i default).t < a.S := fun h => by obtain ⟨y1, y2, y3, y4, _⟩ := hel h; omega) <;> (refine W_seq ?_; (refine W_seq ?_; (refine W_rgn ?_; ((refine Ra rfl (X_mv rfl ?_)) <;> (refine Ra rfl (X_faddr rfl ?_)) <;> (refine Ra rfl (X_load (lB rfl rfl) ?_)) <;> (refine Ra rfl (xLen rfl ?_)) <;> (refine Ra rfl (X_lss rfl rfl (fun _ => ?_) (fun _ => ?_))) <;> (refine R_nil ?_))) <;> ((refine thenQ_nrm ?_; (refine W_cond rfl (fun ht => ?_) (fun ht => ?_) <;> (first | exact absurd ht (by decide) | (refine W_skip ?_) | (refine W_exit ?_)))))) <;> (first | refine thenQ_ext ?_ | (refine thenQ_nrm ?_; (refine W_seq ?_; (refine W_block ?_; (refine W_drw ?_; ((refine Da rfl rfl (X_mv rfl ?_)) <;> (refine Da rfl rfl (X_faddr rfl ?_)) <;> (refine Da rfl rfl (X_load (lB rfl rfl) ?_)) <;> (refine Da rfl rfl (X_mv rfl ?_)) <;> (refine Da rfl rfl (xIa rfl rfl (by omega) (by omega) ?_)) <;> (refine Da rfl rfl (X_faddr rfl ?_)) <;> (refine Da rfl rfl (X_load (lE0 rfl (by omega) rfl) ?_)) <;> (refine Da rfl rfl (X_mv rfl ?_)) <;> (refine Da rfl rfl (X_faddr rfl ?_)) <;> (refine Da rfl rfl (X_load (lB rfl rfl) ?_)) <;> (refine Da rfl rfl (X_mv rfl ?_)) <;> (refine Da rfl rfl (xIa rfl rfl (by omega) (by omega) ?_)) <;> (refine Da rfl rfl (X_faddr rfl ?_)) <;> (refine Da rfl rfl (X_load (lE0 rfl (by omega) rfl) ?_)) <;> (refine Da rfl rfl (xIa rfl rfl (by omega) (by omega) ?_)) <;> (refine Da rfl rfl (X_load (lE0 rfl (by omega) rfl) ?_)) <;> (refine Da rfl rfl (X_mv rfl ?_)) <;> (refine Da rfl rfl (X_faddr rfl ?_)) <;> (refine Da rfl rfl (X_load (lB rfl rfl) ?_)) <;> (refine Da rfl rfl (X_mv rfl ?_)) <;> (refine Da rfl rfl (xIa rfl rfl (by omega) (by omega) ?_)) <;> (refine Da rfl rfl (X_faddr rfl ?_)) <;> (refine Da rfl rfl (X_load (lE rfl (by omega) rfl) ?_)) <;> (refine Da rfl rfl (xIa rfl rfl (by omega) (by omega) ?_)) <;> (refine Da rfl rfl (X_load (lE0 rfl (by omega) rfl) ?_)) <;> (refine D_consR rfl (S_do rfl (xP (add_ok lo (hac.2 _ (by omega)) (hno.2 _ (by omega))) rfl (fun _ Z67 hz67 hq => ⟨(by (refine rDo rfl rfl (lB rfl rfl) ?_); (refine rDo rfl rfl (lE0 rfl (by omega) rfl) ?_); exact Rck_nil), ?_⟩))); (subst hq)) <;> (refine Da rfl rfl (xIa rfl rfl (by omega) (by omega) ?_)) <;> (refine Dn rfl (xSA rfl rfl rfl (by omega) rfl ?_)) <;> (refine D_nil ?_))) <;> (refine blockQ_nrm ?_)) <;> ((refine thenQ_nrm ?_; (refine W_rgn ?_; ((refine Ra rfl (X_mv rfl ?_)) <;> (refine Ra rfl (X_addI rfl rfl (by omega) (by omega) ?_)) <;> (refine Ra rfl (X_mv rfl ?_)) <;> (refine R_nil ?_))))))))) <;> (first | refine thenQ_ext ?_ | (refine thenQ_nrm ?_; (
        refine Upd.done ⟨i + 1, by omega, by omega, (by repeat' (first | exact trivial | exact rfl | constructor)), (hR ?_ (hR rfl (hB rfl Has.nil)))⟩
        rw [foldl_take (by omega), incC, List.map_set]; rfl)))) <;> (refine blockQ_ext ?_))))) <;> ((refine thenQ_nrm ?_; (refine W_rgn ?_; ((refine Ra rfl (X_mv rfl ?_)) <;> (refine Ra rfl (X_mv rfl ?_)) <;> (refine R_nil ?_))))))))) <;> (refine blockQ_nrm ?_)) <;> ((refine thenQ_nrm ?_; (refine W_rgn ?_; ((refine Ra rfl (X_mv rfl ?_)) <;> (refine Ra rfl (X_addI rfl rfl (by omega) (by omega) ?_)) <;> (refine Ra rfl (X_mv rfl ?_)) <;> (refine R_nil ?_))))))))) <;> (first | refine thenQ_ext ?_ | (refine thenQ_nrm ?_; (
        refine Upd.done ⟨(k + 1, v34), ?_, ?_, (by repeat' (first | exact trivial | exact rfl | constructor)), (hR ?_ (hB rfl Has.nil))⟩
        · show n - (k + 1) < n - k
          omega
        · show k + 1 ≤ n
          omega
        · rw [List.take_of_length_le (by omega)]; rfl)))) <;> (refine blockQ_ext ?_))))) <;> ((refine thenQ_nrm ?_; (refine W_seq ?_; (refine W_rgn ?_; ((refine Ra rfl (X_mv rfl ?_)) <;> (refine Ra rfl (xIa rfl rfl (by omega) (by omega) ?_)) <;> (refine Ra rfl (X_load (lE0 rfl (by omega) rfl) ?_)) <;> (refine Ra rfl (X_mv rfl ?_)) <;> (refine R_nil ?_))) <;> ((refine thenQ_nrm ?_; (refine W_ret ?_))))))))))))))))
  <;> (refine fnP_ret (Res.tmp rfl Res.nil) ?_)
  have hk' : k = n := by omega
  subst hk'
  rfl
end Go.Proofs.Ytbjgnogcjglcoaa.Hm.V
