import Derived.Test.YtbjgnogcjglcoaaHF
import Derived.Test.YtbjgnogcjglcoaaA6
import Derived.Test.YtbjgnogcjglcoaaVD1
namespace Go.Proofs.Ytbjgnogcjglcoaa.Hm.V
open Go
set_option linter.all false
set_option maxRecDepth 100000
attribute [local irreducible] X S R D W Call Upd Rds Rck Sees Res Cel CallP fnQ
theorem foldIns_len (ss : List Nat) (c : Nat) (ord : List Nat) : ((ss.take c).foldl insS ord).length ≤ ord.length + c := by
  have key : ∀ (l ord : List Nat), (l.foldl insS ord).length ≤ ord.length + l.length := by
    intro l
    induction l with
    | nil => intro ord; simp
    | cons x l ih =>
      intro ord
      have h1 := ih (insS ord x)
      have h2 : (insS ord x).length ≤ ord.length + 1 := by unfold insS; split <;> simp
      rw [List.foldl_cons, List.length_cons]; omega
  have := key (ss.take c) ord
  rw [List.length_take] at this
  omega
set_option maxHeartbeats 4000000 in
theorem sets_ok (lo : Nat) {Z : Vw} {v : Value} {a : Au} (ha : AuV Z v a) (hA : isAutoP a) : Call F lo 66 [v] Z [] fun r Z' O' => setsQ a (detS a.ed a.L.toNat 257 0 [setOf a.st]) r Z' O' := by
  have hinS := isAuto_st hA
  have hinE := isAuto_en hA
  have hinD := isAuto_ed hA
  have hL : 1 ≤ a.L ∧ a.L ≤ 1024 := ⟨hA.2.2.1, hA.2.2.2.1⟩
  generalize hD : detS a.ed a.L.toNat 257 0 [setOf a.st] = D
  have hI0 : ∀ Zi, SetsI a D Zi 0 [setOf a.st] [] [] := fun Zi => ⟨Nat.zero_le _, ⟨[], rfl⟩, (by simp), (by simp; omega), hD, (by simp), fun m hm => (by rw [List.mem_singleton.1 hm]; exact setOf_lt hinS), fun m hm => absurd hm (by simp), rfl, fun j hj => absurd hj (by omega), rfl⟩
  have hV := ha
  obtain ⟨vs, ve, vg, rfl, hs, he, hg, q1, q2, q3⟩ := ha
  refine Fn (fn := c66) rfl rfl rfl ?_
  (refine W_seq ?_; (refine W_rgn ?_; ((refine Ra rfl (xBox rfl (fun b1 => ?_))) <;> (refine Ra rfl (X_alloc (fun b2 => ?_))) <;> (refine Ra rfl (X_mv rfl ?_)) <;> (refine R_nil ?_))) <;> ((refine thenQ_nrm ?_; (refine W_seq ?_; (refine W_drw ?_; ((refine Da rfl rfl (X_faddr rfl ?_)) <;> (refine Da rfl rfl (X_load (lB rfl rfl) ?_)) <;> (refine Da rfl rfl (X_faddr rfl ?_)) <;> (refine Da rfl rfl (X_load (lB rfl rfl) ?_)) <;> (refine Da rfl rfl (X_alloc (fun b4 => ?_))) <;> (refine Da rfl rfl (X_alloc (fun b5 => ?_))) <;> (refine D_consR rfl (S_do rfl (xP (of_ok lo (by assumption) (by assumption)) rfl (fun _ Z17 hz17 hq => ⟨(by (refine rDo rfl rfl (lB rfl rfl) ?_); exact Rck_nil), ?_⟩))); (subst hq)) <;> (refine Da rfl rfl (xP (of_ok lo (by assumption) (by assumption)) rfl (fun _ Z20 hz20 hq => ?_)); (subst hq)) <;> (refine Dn rfl (xSW rfl rfl rfl rfl ?_)) <;> (refine Dn rfl (xSW rfl rfl rfl rfl ?_)) <;> (refine D_nil ?_))) <;> ((refine thenQ_nrm ?_; (refine W_seq ?_; (refine W_rgn ?_; ((refine Ra rfl (X_mkmap (fun v21 => ?_))) <;> (refine Ra rfl (X_load (lBA rfl rfl) ?_)) <;> (refine Rn (xPut rfl rfl rfl (keyOk_set _) rfl ?_)) <;> (refine Ra rfl (X_mv rfl ?_)) <;> (refine Ra rfl (X_mv rfl ?_)) <;> (refine R_nil ?_))) <;> ((refine thenQ_nrm ?_; (refine W_seq ?_; (refine W_rgn ?_; ((refine Ra rfl (X_load (lBA rfl rfl) ?_)) <;> (refine Ra rfl (X_bsliceC (pCons rfl Parts.nil) rfl rfl rfl (fun v25 => ?_))) <;> (refine Ra rfl (X_mv rfl ?_)) <;> (refine R_nil ?_))) <;> ((refine thenQ_nrm ?_; (refine W_seq ?_; (refine W_rgn ?_; ((refine Ra rfl (X_alloc (fun b8 => ?_))) <;> (refine R_nil ?_))) <;> ((refine thenQ_nrm ?_; (refine W_seq ?_; (refine W_seq ?_; (refine W_rgn ?_; ((refine Ra rfl (X_mv rfl ?_)) <;> (refine R_nil ?_))) <;> ((refine thenQ_nrm ?_; (refine W_block ?_; ((
      refine wLoop (fun (p : Nat × List Nat × Value × Value × Value × List Value × List Bool) => match p with | (i, ord, vo, vto, ven, ws, en) => [(9, .int .i64 (i : Nat)), (7, vo)]) (fun p => match p with | (i, ord, vo, vto, ven, ws, en) => [.map v21 (assocS 0 (ord)), .gro vo 4 ((ord).map cS), .box b8 [vto, ven], .gro vto 1 (ws.map cV), .gro ven 1 (en.map cB), .box b5 (cS (setOf a.en)), .box b2 [.slice none 0 0, .slice none 0 0], .box b1 [.int .i64 a.S, .int .i64 a.L, vs, ve, vg]])
        (fun p Zi => match p with | (i, ord, vo, vto, ven, ws, en) => SetsI a D Zi i ord ws en) (fun p => match p with | (i, _) => 257 - i) (0, [setOf a.st], v25, .slice none 0 0, .slice none 0 0, [], []) (by repeat' (first | exact trivial | exact rfl | constructor))
        (Upd.gro0 (e := 1) (by decide) (Upd.gro0 (e := 1) (by decide) (Upd.done ⟨hI0 _, hM rfl (hAG rfl rfl rfl (hB rfl (hG rfl (hG rfl (hB rfl (hB rfl (hB rfl Has.nil)))))))⟩))) ?_
      rintro ⟨i, ord, vo, vto, ven, ws, en⟩ Z1 hz1 hI
      have hI : SetsI a D Z1 i ord ws en := hI
      have hi := hI.hi
      have hlen := hI.len
      have hwl := hI.wl
      have hel : en.length = i := by rw [hI.en, List.length_map, List.length_take]; omega
      have hoi : i < ord.length → ord.getD i default < 2 ^ 256 := fun h => by rw [getD_eq h]; exact hI.lt _ (List.getElem_mem h)
      have hnl := nextL_len a.ed (ord.getD i default) a.L.toNat) <;> (refine W_seq ?_; (refine W_seq ?_; (refine W_rgn ?_; ((refine Ra rfl (X_mv rfl ?_)) <;> (refine Ra rfl (X_mv rfl ?_)) <;> (refine Ra rfl (xLen rfl ?_)) <;> (refine Ra rfl (X_lss rfl rfl (fun _ => ?_) (fun _ => ?_))) <;> (refine R_nil ?_))) <;> ((refine thenQ_nrm ?_; (refine W_cond rfl (fun ht => ?_) (fun ht => ?_) <;> (first | exact absurd ht (by decide) | (refine W_skip ?_) | (refine W_exit ?_)))))) <;> (first | refine thenQ_ext ?_ | (refine thenQ_nrm ?_; (refine W_seq ?_; (refine W_block ?_; (refine W_seq ?_; (refine W_rgn ?_; ((refine Ra rfl (X_faddr rfl ?_)) <;> (refine Ra rfl (X_load (lB rfl rfl) ?_)) <;> (refine Ra rfl (xMk rfl rfl (by omega) (by omega) (by omega) rfl (fun v34 => ?_))) <;> (refine Ra rfl (X_mv rfl ?_)) <;> (refine R_nil ?_))) <;> ((refine thenQ_nrm ?_; (refine W_seq ?_; (refine W_seq ?_; (refine W_drw ?_; ((refine Da rfl rfl (X_load (lBA rfl rfl) ?_)) <;> (refine Da rfl rfl (X_mv rfl ?_)) <;> (refine Da rfl rfl (X_mv rfl ?_)) <;> (refine Da rfl rfl (xIa rfl rfl (by omega) (by omega) ?_)) <;> (refine Da rfl rfl (X_load (lEA rfl (by omega)) ?_)) <;> (refine Da rfl rfl (X_mv rfl ?_)) <;> (refine Da rfl rfl (xP (next_ok lo (by first | assumption | exact AuV.le (by assumption) ZC.le) (by assumption)) rfl (fun w40 Z40 hz40 hf40 => ?_))) <;> (refine Da rfl rfl (xLen rfl ?_)) <;> (refine D_nil ?_))) <;> ((refine thenQ_nrm ?_; (refine W_block ?_; ((
      refine wLoop (fun (p : Nat × Value) => match p with | (c, vo) => [(42, .int .i64 (c : Nat)), (7, vo)]) (fun p => match p with | (c, vo) => .arr v34 1 a.L.toNat ((partRow (((nextL a.ed (ord.getD i default) a.L.toNat).take c).foldl insS ord) (nextL a.ed (ord.getD i default) a.L.toNat) c a.L.toNat).map cI) :: [.map v21 (assocS 0 (((nextL a.ed (ord.getD i default) a.L.toNat).take c).foldl insS ord)), .gro vo 4 ((((nextL a.ed (ord.getD i default) a.L.toNat).take c).foldl insS ord).map cS), .box b8 [vto, ven], .gro vto 1 (ws.map cV), .gro ven 1 (en.map cB), .box b5 (cS (setOf a.en)), .box b2 [.slice none 0 0, .slice none 0 0], .box b1 [.int .i64 a.S, .int .i64 a.L, vs, ve, vg]])
        (fun p _ => match p with | (c, _) => c ≤ a.L.toNat) (fun p => match p with | (c, _) => a.L.toNat - c) (0, vo) (by repeat' (first | exact trivial | exact rfl | constructor))
        (Upd.done ⟨Nat.zero_le _, hR (by rw [partRow_zero]; simp [cI]) (hM rfl (hG rfl (hB rfl (hG rfl (hG rfl (hB rfl (hB rfl (hB rfl Has.nil))))))))⟩) ?_
      rintro ⟨c, vo⟩ Z2 hz2 hc
      have hc : c ≤ a.L.toNat := hc
      have hlt1 : ∀ x ∈ ((nextL a.ed (ord.getD i default) a.L.toNat).take c).foldl insS ord, x < 2 ^ 256 := fold_lt hI.lt (fun m hm => nextL_lt hinD m (List.mem_of_mem_take hm))
      have hs1 : c < a.L.toNat → (nextL a.ed (ord.getD i default) a.L.toNat).getD c default < 2 ^ 256 := fun h => by rw [getD_eq (by omega)]; exact nextL_lt hinD _ (List.getElem_mem _)
      obtain ⟨tl, htl⟩ := fold_app ord ((nextL a.ed (ord.getD i default) a.L.toNat).take c)
      have hol : ord.length ≤ (((nextL a.ed (ord.getD i default) a.L.toNat).take c).foldl insS ord).length := by rw [htl, List.length_append]; omega
      have hou : (((nextL a.ed (ord.getD i default) a.L.toNat).take c).foldl insS ord).length ≤ 256 + c := by rw [htl, List.length_append]; have := foldIns_len (nextL a.ed (ord.getD i default) a.L.toNat) c ord; rw [htl, List.length_append] at this; omega
      have hpl := partRow_len (ord := ((nextL a.ed (ord.getD i default) a.L.toNat).take c).foldl insS ord) (ss := nextL a.ed (ord.getD i default) a.L.toNat) hc hnl
      have hgi : (((nextL a.ed (ord.getD i default) a.L.toNat).take c).foldl insS ord).getD i default = ord.getD i default := by rw [htl, getD_app (by omega)]
      have hmi : (((nextL a.ed (ord.getD i default) a.L.toNat).take c).foldl insS ord).getD i default < 2 ^ 256 := by rw [hgi]; exact hoi (by omega)
      have hall : ∀ s ∈ (nextL a.ed (ord.getD i default) a.L.toNat).take c, s ∈ ((nextL a.ed (ord.getD i default) a.L.toNat).take c).foldl insS ord := fun s hs => fold_mem hs
      have hmul : ((((nextL a.ed (ord.getD i default) a.L.toNat).take c).foldl insS ord).length : Int) * a.L = (((((nextL a.ed (ord.getD i default) a.L.toNat).take c).foldl insS ord).length * a.L.toNat : Nat) : Int) := by rw [Int.natCast_mul]; congr 1; omega
      have hmul2 : (((nextL a.ed (ord.getD i default) a.L.toNat).take c).foldl insS ord).length ≤ 256 → (((nextL a.ed (ord.getD i default) a.L.toNat).take c).foldl insS ord).length * a.L.toNat ≤ 262144 := fun h => Nat.le_trans (Nat.mul_le_mul h (by omega : a.L.toNat ≤ 1024)) (by decide)) <;> (refine W_seq ?_; (refine W_rgn ?_; ((refine Ra rfl (X_lss rfl rfl (fun _ => ?_) (fun _ => ?_))) <;> (refine R_nil ?_))) <;> ((refine thenQ_nrm ?_; (refine W_seq ?_; (refine W_cond rfl (fun ht => ?_) (fun ht => ?_) <;> (first | exact absurd ht (by decide) | (refine W_skip ?_) | (refine W_exit ?_))) <;> (first | refine thenQ_ext ?_ | (refine thenQ_nrm ?_; (refine W_seq ?_; (refine W_block ?_; (refine W_seq ?_; (refine W_rgn ?_; ((refine Ra rfl (X_mv rfl ?_)) <;> (refine Ra rfl (xIa rfl rfl (by omega) (by omega) ?_)) <;> (refine Ra rfl (X_load (lEA rfl (by omega)) ?_)) <;> (refine Ra rfl (X_alloc (fun b12 => ?_))) <;> (refine Ra rfl (X_mv rfl ?_)) <;> (refine Rn (xSW rfl rfl rfl rfl ?_)) <;> (refine R_nil ?_))) <;> ((refine thenQ_nrm ?_; (refine W_seq ?_; (refine W_rgn ?_; ((refine Ra rfl (X_mv rfl ?_)) <;> (refine Ra rfl (X_load (lBA rfl rfl) ?_)) <;> (refine Ra rfl (xLookS rfl rfl (hs1 (by omega)) hlt1 (fun hm => ?_) (fun hm => ?_))) <;> (refine Ra rfl (X_mv rfl ?_)) <;> (refine Ra rfl (X_extract rfl rfl ?_)) <;> (refine Ra rfl (X_extract rfl rfl ?_)) <;> (refine Ra rfl (X_mv rfl ?_)) <;> (refine Ra rfl (X_mv rfl ?_)) <;> (refine R_nil ?_))) <;> ((refine thenQ_nrm ?_; (refine W_seq ?_; (refine W_seq ?_; (refine W_rgn ?_; ((refine Ra rfl (X_mv rfl ?_)) <;> (refine Ra rfl (X_not rfl ?_)) <;> (refine R_nil ?_))) <;> ((refine thenQ_nrm ?_; (refine W_cond rfl (fun ht => ?_) (fun ht => ?_) <;> (first | exact absurd ht (by decide) | (refine W_seq ?_; (refine W_rgn ?_; ((refine Ra rfl (X_mv rfl ?_)) <;> (refine Ra rfl (xLen rfl ?_)) <;> (refine Ra rfl (X_mv rfl ?_)) <;> (refine R_nil ?_))) <;> ((refine thenQ_nrm ?_; (refine W_seq ?_; (refine W_rgn ?_; ((refine Ra rfl (X_mv rfl ?_)) <;> (refine Ra rfl (X_load (lBA rfl rfl) ?_)) <;> (refine Ra rfl (X_mv rfl ?_)) <;> (refine Rn (xPutS rfl rfl rfl (hs1 (by omega)) hlt1 hm ?_)) <;> (refine R_nil ?_))) <;> ((refine thenQ_nrm ?_; (refine W_rgn ?_; ((refine Ra rfl (X_mv rfl ?_)) <;> (refine Ra rfl (X_load (lBA rfl rfl) ?_)) <;> (refine Ra rfl (X_bsliceC (pCons rfl Parts.nil) rfl rfl rfl (fun v62 => ?_))) <;> (refine Ra rfl (xApG rfl rfl (by first | (simp only [List.length_map, List.length_cons, List.length_nil, List.length_append, chunk]; omega) | omega) (fun v63 => ?_))) <;> (refine Ra rfl (X_mv rfl ?_)) <;> (refine R_nil ?_))))))))) | (refine W_skip ?_)))))) <;> ((refine thenQ_nrm ?_; (refine W_rgn ?_; ((refine Ra rfl (X_mv rfl ?_)) <;> (refine Ra rfl (X_mv rfl ?_)) <;> (refine Ra rfl (X_mv rfl ?_)) <;> (refine Ra rfl (xIa rfl rfl (by omega) (by omega) ?_)) <;> (refine Rn (xSA rfl rfl rfl (by omega) rfl ?_)) <;> (refine R_nil ?_)))))))))))) <;> (refine blockQ_nrm ?_)) <;> ((refine thenQ_nrm ?_; (refine W_rgn ?_; ((refine Ra rfl (X_addI rfl rfl (by omega) (by omega) ?_)) <;> (refine Ra rfl (X_mv rfl ?_)) <;> (refine R_nil ?_)))))))))))) <;> (first | refine thenQ_ext ?_ | (refine thenQ_nrm ?_; (
        refine Upd.done ⟨(c + 1, _), ?_, ?_, (by repeat' (first | exact trivial | exact rfl | constructor)), hR ?_ (hM ?_ (hG ?_ (hB rfl (hG rfl (hG rfl (hB rfl (hB rfl (hB rfl Has.nil))))))))⟩
        · show a.L.toNat - (c + 1) < a.L.toNat - c
          omega
        · show c + 1 ≤ a.L.toNat
          omega
        all_goals rw [fold_take (by omega)]
        · rw [← partRow_step hnl (by omega) hall, List.map_set, idx_ins]
          first
            | (rw [if_pos hm]; rfl)
            | (rw [if_neg hm]; rfl)
        · first
            | (rw [insS, if_pos hm])
            | (rw [insS, if_neg hm])
        · first
            | (rw [insS, if_pos hm])
            | (rw [insS, if_neg hm, List.map_append]; rfl))))) <;> (refine blockQ_ext ?_))))) <;> ((refine thenQ_nrm ?_; (refine W_seq ?_; (refine W_rgn ?_; ((refine Ra rfl (X_faddr rfl ?_)) <;> (refine Ra rfl (X_load (lB rfl rfl) ?_)) <;> (refine Ra rfl (X_mv rfl ?_)) <;> (refine Ra rfl (X_bsliceC (pCons rfl Parts.nil) rfl rfl rfl (fun v72 => ?_))) <;> (refine Ra rfl (xApG rfl rfl (by first | (simp only [List.length_map, List.length_cons, List.length_nil, List.length_append, chunk]; omega) | omega) (fun v73 => ?_))) <;> (refine Ra rfl (X_faddr rfl ?_)) <;> (refine Rn (xSB rfl rfl rfl rfl rfl ?_)) <;> (refine R_nil ?_))) <;> ((refine thenQ_nrm ?_; (refine W_seq ?_; (refine W_drw ?_; ((refine Da rfl rfl (X_faddr rfl ?_)) <;> (refine Da rfl rfl (X_load (lB rfl rfl) ?_)) <;> (refine Da rfl rfl (X_mv rfl ?_)) <;> (refine Da rfl rfl (X_mv rfl ?_)) <;> (refine Da rfl rfl (xIa rfl rfl (by omega) (by omega) ?_)) <;> (refine Da rfl rfl (X_load (lEA rfl (by omega)) ?_)) <;> (refine Da rfl rfl (X_load (lBA rfl rfl) ?_)) <;> (refine D_consR rfl (S_do rfl (xP (meets_ok lo (by assumption)) rfl (fun _ Z82 hz82 hb82 => ⟨(by (refine rDo rfl rfl (lB rfl rfl) ?_); exact Rck_nil), ?_⟩))); (obtain ⟨b82, rfl, hb82⟩ := hb82)) <;> (refine Da rfl rfl (X_bsliceC (pCons rfl Parts.nil) rfl rfl rfl (fun v83 => ?_))) <;> (refine Da rfl rfl (xApG rfl rfl (by first | (simp only [List.length_map, List.length_cons, List.length_nil, List.length_append, chunk]; omega) | omega) (fun v84 => ?_))) <;> (refine Da rfl rfl (X_faddr rfl ?_)) <;> (refine Dn rfl (xSB rfl rfl rfl rfl rfl ?_)) <;> (refine D_nil ?_))) <;> ((refine thenQ_nrm ?_; (refine W_seq ?_; (refine W_rgn ?_; ((refine Ra rfl (X_mv rfl ?_)) <;> (refine Ra rfl (xLen rfl ?_)) <;> (refine Ra rfl (X_gtr rfl rfl (fun _ => ?_) (fun _ => ?_))) <;> (refine Ra rfl (X_mv rfl ?_)) <;> (first | (refine Rb rfl rfl (X_mv rfl ?_)) | (refine Rc rfl rfl ?_)) <;> (first | (refine Rb rfl rfl (xLen rfl ?_)) | (refine Rc rfl rfl ?_)) <;> (first | (refine Rb rfl rfl (X_faddr rfl ?_)) | (refine Rc rfl rfl ?_)) <;> (first | (refine Rb rfl rfl (X_load (lB rfl rfl) ?_)) | (refine Rc rfl rfl ?_)) <;> (first | (refine Rb rfl rfl (X_mulI rfl rfl (by first | omega | assumption) (by first | omega | assumption) ?_)) | (refine Rc rfl rfl ?_)) <;> (first | (refine Rb rfl rfl (X_gtr rfl rfl (fun _ => ?_) (fun _ => ?_))) | (refine Rc rfl rfl ?_)) <;> (first | (refine Ra rfl (X_pickT rfl rfl ?_)) | (refine Ra rfl (X_pickF rfl rfl ?_))) <;> (refine R_nil ?_))) <;> ((refine thenQ_nrm ?_; (refine W_cond rfl (fun ht => ?_) (fun ht => ?_) <;> (first | exact absurd ht (by decide) | (refine W_seq ?_; (refine W_rgn ?_; ((refine Ra rfl (X_buildC Parts.nil rfl ?_)) <;> (refine Rn (xSW rfl rfl rfl rfl ?_)) <;> (refine Ra rfl (X_mv rfl ?_)) <;> (refine R_nil ?_))) <;> ((refine thenQ_nrm ?_; (refine W_ret ?_)))) | (refine W_skip ?_)))))))))))))))))) <;> (first | refine blockQ_nrm ?_ | refine blockQ_ret ?_)) <;> (first | refine thenQ_ret ?_ | (refine thenQ_nrm ?_; (refine W_rgn ?_; ((refine Ra rfl (X_mv rfl ?_)) <;> (refine Ra rfl (X_addI rfl rfl (by omega) (by omega) ?_)) <;> (refine Ra rfl (X_mv rfl ?_)) <;> (refine R_nil ?_))))))))) <;> (first | refine thenQ_ret ?_ | refine thenQ_ext ?_ | (refine thenQ_nrm ?_; (
        refine uA v34 fun Z9 hz9 hf => Upd.done ⟨(i + 1, _, _, _, _, ws ++ [v34], en ++ [b82]), ?_, ?_, (by repeat' (first | exact trivial | exact rfl | constructor)), hM rfl (hG rfl (hB rfl (hG ?_ (hG ?_ (hB rfl (hB rfl (hB rfl Has.nil)))))))⟩
        · show 257 - (i + 1) < 257 - i
          omega
        · have hb1 : (((nextL a.ed (ord.getD i default) a.L.toNat).take c).foldl insS ord).length ≤ 256 := by omega
          have hb2 : (((nextL a.ed (ord.getD i default) a.L.toNat).take c).foldl insS ord).length * a.L.toNat ≤ 200000 := by omega
          rw [hgi] at hb82
          have hc' : c = a.L.toNat := by omega
          subst hc'
          have e0 : (nextL a.ed (ord.getD i default) a.L.toNat).take a.L.toNat = nextL a.ed (ord.getD i default) a.L.toNat := List.take_of_length_le (by omega)
          rw [e0] at hf hb1 hb2 ⊢
          rw [partRow_all hnl] at hf
          exact hI.next hA ZC.le (by omega) (bigS_no hb1 hb2) hf hb82
        · rw [List.map_append]; rfl
        · rw [List.map_append]; rfl)))) <;> (first | refine blockQ_ret ?_ | refine blockQ_ext ?_))))) <;> (first | refine thenQ_ret ?_ | (refine thenQ_nrm ?_; (refine W_seq ?_; (refine W_rgn ?_; ((refine Ra rfl (X_load (lBA rfl rfl) ?_)) <;> (refine Rn (xSW rfl rfl rfl rfl ?_)) <;> (refine Ra rfl (X_mv rfl ?_)) <;> (refine R_nil ?_))) <;> ((refine thenQ_nrm ?_; (refine W_ret ?_))))))))))))))))))))))
  <;> (refine fn_ret (rA rfl rfl (Res.tmp rfl Res.nil)) ?_)
  all_goals first
    | (have hb : bigS a.L.toNat (((nextL a.ed (ord.getD i default) a.L.toNat).take c).foldl insS ord) = true := bigS_true (by first | exact .inl (by omega) | exact .inr (by omega))
       have hc' : c = a.L.toNat := by omega
       subst hc'
       rw [List.take_of_length_le (by omega)] at hb
       have hN := hI.big_none (by omega) hb
       subst hN
       exact Upd.nil ⟨rfl, rfl⟩)
    | (obtain ⟨d1, d2, d3⟩ := hI.done (by omega)
       subst d1
       refine uG vto (fun Z9 hz9 hf => Upd.has (hG (by rw [d3]) Has.nil) ⟨d2, vto, ven, rfl, rfl, ws, hf, by simp [rowsS]; omega, fun j hj => ?_⟩)
       have hj : j < ord.length := by simpa [rowsS] using hj
       have e : (rowsS a ord).getD j default = rowS ord (nextL a.ed (ord.getD j default) a.L.toNat) := by
         rw [getD_eq (by simpa [rowsS] using hj), getD_eq hj]; simp [rowsS]
       rw [e]
       exact (hI.ws j (by omega)).le ZC.le)
end Go.Proofs.Ytbjgnogcjglcoaa.Hm.V
