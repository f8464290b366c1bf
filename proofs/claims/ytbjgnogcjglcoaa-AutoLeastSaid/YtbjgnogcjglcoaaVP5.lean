/- Of layer 27: far, run. -/
import Derived.Test.YtbjgnogcjglcoaaHF
import Derived.Test.YtbjgnogcjglcoaaA6
import Derived.Test.YtbjgnogcjglcoaaVP4
namespace Go.Proofs.Ytbjgnogcjglcoaa.Hm.V
open Go
set_option linter.all false
set_option maxRecDepth 100000
attribute [local irreducible] X S R D W Call Upd Rds Rck Sees Res Cel CallP fnQ
theorem minus_step {S i : Nat} (h : i < S) : (List.replicate i (-1 : Int) ++ List.replicate (S - i) 0).set i (-1) = List.replicate (i + 1) (-1 : Int) ++ List.replicate (S - (i + 1)) 0 := by
  have e1 : S - i = (S - (i + 1)) + 1 := by omega
  rw [List.set_append_right _ _ (by simp), List.length_replicate, Nat.sub_self, e1, List.replicate_succ, List.set_cons_zero, List.replicate_succ', List.append_assoc]; rfl
theorem intoL_zero (S : Nat) : intoL S ([] : List Ed) = List.replicate S [] := by
  apply List.ext_getElem
  · simp [intoL]
  · intro i h1 h2; simp [intoL, inL]
set_option maxHeartbeats 4000000 in
theorem Clone1G_ok (lo : Nat) {Z : Vw} {v : Value} {l : List Int} [hl : FzL Z 1 v (l.map cI)] (hlen : l.length ≤ 1000000) : Call F lo 72 [v] Z [] fun r Z' O' => O' = [.gro r 1 (l.map cI)] := by
  have hl := hl.out
  refine Fn (fn := c72) rfl rfl rfl ?_
  (refine W_seq ?_; (refine W_rgn ?_; ((refine Ra rfl (X_mv rfl ?_)) <;> (refine R_nil ?_))) <;> ((refine thenQ_nrm ?_; (refine W_seq ?_; (refine W_seq ?_; (refine W_rgn ?_; ((refine Ra rfl (X_mv rfl ?_)) <;> (refine Ra rfl (xNilZ rfl rfl (fun hv hx => ?_) ?_)) <;> (refine R_nil ?_))) <;> ((refine thenQ_nrm ?_; (refine W_cond rfl (fun ht => ?_) (fun ht => ?_) <;> (first | exact absurd ht (by decide) | (refine W_seq ?_; (refine W_rgn ?_; ((refine Ra rfl (X_mv rfl ?_)) <;> (refine R_nil ?_))) <;> ((refine thenQ_nrm ?_; (refine W_ret ?_)))) | (refine W_skip ?_)))))) <;> (first | refine thenQ_ret ?_ | (refine thenQ_nrm ?_; (refine W_seq ?_; (refine W_rgn ?_; ((refine Ra rfl (X_bsliceC Parts.nil rfl rfl rfl (fun v5 => ?_)); (rcases Nat.eq_zero_or_pos l.length with hl0 | hl0)) <;> (refine Ra rfl (X_mv rfl ?_)) <;> (first | (refine Ra rfl (xApA (xs := []) (c := 0) rfl rfl rfl (by simp only [List.length_map, List.length_nil]; omega) (by simp only [List.length_map, List.length_nil]; omega) (fun v7 => ?_))) | (refine Ra rfl (xApR (xs := []) (c := 0) rfl rfl (by simp only [List.length_map, List.length_nil]; omega) (fun v7 => ?_)))) <;> (refine Ra rfl (X_mv rfl ?_)) <;> (refine R_nil ?_))) <;> ((refine thenQ_nrm ?_; (refine W_ret ?_))))))))))
  <;> (refine fn_ret (Res.tmp rfl Res.nil) ?_)
  all_goals first
    | (have hl9 : l = [] := by simpa using hx
       subst hl9
       exact Upd.gro0 (e := 1) (by decide) (Upd.has (L := [.gro (.slice none 0 0) 1 (List.map cI [])]) (hG rfl Has.nil) rfl))
    | exact Upd.has (L := [.gro v7 1 (l.map cI)]) (hG rfl Has.nil) rfl
    | (have hl9 : l = [] := List.length_eq_zero_iff.1 hl0
       subst hl9
       exact Upd.has (L := [.gro v7 1 (List.map cI [])]) (hAG rfl rfl rfl Has.nil) rfl)
theorem rising_lt {l : List Int} {n : Int} (h : risingP l n) : ∀ {i j : Nat}, j < i → i < l.length → l.getD j default < l.getD i default
  | i + 1, j, hj, hi => by
    have h1 := (h (i + 1) hi).2.2 (by omega)
    rw [show i + 1 - 1 = i by omega] at h1
    rcases Nat.lt_or_ge j i with h2 | h2
    · have := rising_lt h h2 (by omega)
      omega
    · obtain rfl : j = i := by omega
      exact h1
def startD (a : Au) (i : Nat) : List Int := (a.en.take i).foldl (fun d x => d.set x.toNat 0) (List.replicate a.S.toNat (-1))
theorem startD_succ {a : Au} {i : Nat} (h : i < a.en.length) : startD a (i + 1) = (startD a i).set (a.en.getD i default).toNat 0 := foldl_take h
theorem startD_all {a : Au} (hA : isAutoP a) : ∀ {i : Nat}, i ≤ a.en.length → (startD a i).length = a.S.toNat ∧ (∀ q, q < a.S.toNat → (startD a i).getD q default = if (q : Int) ∈ a.en.take i then 0 else -1) ∧ nonneg (startD a i) = i
  | 0, _ => by
    refine ⟨by simp [startD], fun q hq => ?_, ?_⟩
    · rw [getD_eq (by simpa [startD] using hq)]; simp [startD]
    · simp [startD, nonneg, List.countP_replicate]
  | i + 1, hi => by
    obtain ⟨h1, h2, h3⟩ := startD_all hA (i := i) (by omega)
    have hen := hA.2.2.2.2.2.2.1
    obtain ⟨e0, e1, _⟩ := hen i (by omega)
    have hm : (((a.en.getD i default).toNat : Nat) : Int) = a.en.getD i default := Int.toNat_of_nonneg e0
    have hnot : a.en.getD i default ∉ a.en.take i := fun hh => by
      obtain ⟨j, hj, e⟩ := List.getElem_of_mem hh
      rw [List.length_take] at hj
      have hlt := rising_lt hen (i := i) (j := j) (by omega) (by omega)
      rw [List.getElem_take, ← getD_eq (by omega)] at e
      omega
    have hneg : (startD a i).getD (a.en.getD i default).toNat default < 0 := by
      rw [h2 _ (by omega), hm, if_neg hnot]; decide
    rw [startD_succ (by omega)]
    refine ⟨by rw [List.length_set]; exact h1, fun q hq => ?_, by rw [nonneg_set (by omega) hneg (Int.le_refl _), h3]⟩
    rw [List.take_succ, getD_at (by omega)]
    by_cases e : q = (a.en.getD i default).toNat
    · subst e
      rw [getD_set_eq (by omega), if_pos (by rw [hm]; simp)]
    · rw [getD_set_ne e, h2 q hq]
      have this : (q : Int) ≠ a.en.getD i default := fun hh => e (by omega)
      show (if (q : Int) ∈ List.take i a.en then (0 : Int) else -1) = if (q : Int) ∈ List.take i a.en ++ [a.en.getD i default] then 0 else -1
      by_cases hq5 : (q : Int) ∈ List.take i a.en
      · rw [if_pos hq5, if_pos (List.mem_append_left _ hq5)]
      · rw [if_neg hq5, if_neg (fun h => (List.mem_append.1 h).elim hq5 (fun h2 => this (List.mem_singleton.1 h2)))]
theorem Bfs.start {a : Au} (hA : isAutoP a) : Bfs a (startD a a.en.length) a.en 0 0 := by
  obtain ⟨h1, h2, h3⟩ := startD_all hA (i := a.en.length) (Nat.le_refl _)
  rw [List.take_length] at h2
  have hen := hA.2.2.2.2.2.2.1
  have hS := hA.1
  have hr : ∀ x ∈ a.en, 0 ≤ x ∧ x < a.S := fun x hx => by
    obtain ⟨i, hi, rfl⟩ := List.getElem_of_mem hx
    obtain ⟨q1, q2, _⟩ := hen i hi
    rw [getD_eq hi] at q1 q2
    exact ⟨q1, q2⟩
  have hz : ∀ x ∈ a.en, (startD a a.en.length).getD x.toNat default = 0 := fun x hx => by
    have := hr x hx
    rw [h2 _ (by omega), Int.toNat_of_nonneg this.1, if_pos hx]
  refine ⟨h1, Nat.zero_le _, fun q hq => ?_, fun q hq hlt => ?_, hr, fun x hx => ?_, fun k k' hk hk' => ?_, fun hi k hk => ?_, fun k hk => absurd hk (by omega), fun x hx => hx, h3.symm, fun _ k hk => absurd hk (by omega)⟩
  · rw [h2 q hq]
    split <;> simp_all
  · rw [h2 q hq] at hlt ⊢
    split at hlt <;> simp_all
  · rw [hz x hx]
    exact ⟨Int.le_refl _, isD_zero hx⟩
  · rw [hz _ (by rw [getD_eq (by omega)]; exact List.getElem_mem _), hz _ (by rw [getD_eq hk']; exact List.getElem_mem _)]; exact Int.le_refl _
  · rw [hz _ (by rw [getD_eq hk]; exact List.getElem_mem _), hz _ (by rw [getD_eq hi]; exact List.getElem_mem _)]; decide
theorem inL_rng {a : Au} (hA : isAutoP a) {q j : Nat} (hj : j < (inL a.ed q).length) : 0 ≤ (inL a.ed q).getD j default ∧ (inL a.ed q).getD j default < a.S := by
  have hm : (inL a.ed q).getD j default ∈ inL a.ed q := by rw [getD_eq hj]; exact List.getElem_mem _
  obtain ⟨x, hx, _, e⟩ := inL_mem.1 hm
  obtain ⟨i, hi, rfl⟩ := List.getElem_of_mem hx
  obtain ⟨h1, h2, _⟩ := hA.2.2.2.2.2.2.2 i hi
  rw [getD_eq hi] at h1 h2
  rw [← e]; exact ⟨h1, h2⟩
theorem Bfs.small {a : Au} {out Q : List Int} {i j : Nat} (hA : isAutoP a) (h : Bfs a out Q i j) : Q.length ≤ 256 ∧ ∀ x ∈ Q, 0 ≤ out.getD x.toNat default ∧ out.getD x.toNat default < 256 := by
  have h1 := h.cnt
  have h2 := nonneg_le out
  have h3 := h.len
  have h4 := hA.2.1
  refine ⟨by omega, fun x hx => ?_⟩
  obtain ⟨d1, d2⟩ := h.dis x hx
  have := isD_lt hA d2
  omega
set_option maxHeartbeats 4000000 in
theorem far_ok (lo : Nat) {Z : Vw} {v : Value} {a : Au} (ha : AuV Z v a) (hA : isAutoP a) : CallP F lo 59 [v] Z fun r Z' => ∃ out, farP a out ∧ Ints Z' r out := by
  have hedg : ∀ i, i < a.ed.length → 0 ≤ (a.ed.getD i default).t ∧ (a.ed.getD i default).t < a.S := fun i hi => ⟨(hA.2.2.2.2.2.2.2 i hi).2.2.1, (hA.2.2.2.2.2.2.2 i hi).2.2.2.1⟩
  have hS0 := hA.1
  have hS1 := hA.2.1
  have hel9 := hA.2.2.2.2.1
  have hnl9 := rising_len hA.2.2.2.2.2.2.1 hA.1
  have hV := ha
  obtain ⟨vs, ve, vg, rfl, hs, he, hg, q1, q2, q3⟩ := ha
  refine FnP (fn := c59) rfl rfl rfl ?_
  (refine W_seq ?_; (refine W_rgn ?_; ((refine Ra rfl (xBox rfl (fun b1 => ?_))) <;> (refine Ra rfl (X_mv rfl ?_)) <;> (refine R_nil ?_))) <;> ((refine thenQ_nrm ?_; (refine W_seq ?_; (refine W_rgn ?_; ((refine Ra rfl (X_faddr rfl ?_)) <;> (refine Ra rfl (X_load (lB rfl rfl) ?_)) <;> (refine Ra rfl (xMk rfl rfl (by omega) (by omega) (by omega) rfl (fun v16 => ?_))) <;> (refine Ra rfl (X_mv rfl ?_)) <;> (refine R_nil ?_))) <;> ((refine thenQ_nrm ?_; (refine W_seq ?_; (refine W_seq ?_; (refine W_rgn ?_; ((refine Ra rfl (X_mv rfl ?_)) <;> (refine Ra rfl (xLenX rfl ?_)) <;> (refine Ra rfl (X_mv rfl ?_)) <;> (refine R_nil ?_))) <;> ((refine thenQ_nrm ?_; (refine W_block ?_; ((
      refine wLoop (fun i : Nat => [(19, .int .i64 i)]) (fun i => [.arr v16 1 a.S.toNat ((List.replicate i (-1 : Int) ++ List.replicate (a.S.toNat - i) 0).map cI), .box b1 [.int .i64 a.S, .int .i64 a.L, vs, ve, vg]]) (fun i Zi => i ≤ a.S.toNat) (fun i => a.S.toNat - i) 0 (by repeat' (first | exact trivial | exact rfl | constructor)) (Upd.done ⟨Nat.zero_le _, (hR (by simp [cI]) (hB rfl Has.nil))⟩) ?_
      intro i Z1 hz1 hp
      have hml : (List.replicate i (-1 : Int) ++ List.replicate (a.S.toNat - i) 0).length = a.S.toNat := by simp; omega
      have hrep : (List.replicate a.S.toNat [Value.int IntKind.i64 0]).length = a.S.toNat := List.length_replicate) <;> (refine W_seq ?_; (refine W_rgn ?_; ((refine Ra rfl (X_lss rfl rfl (fun _ => ?_) (fun _ => ?_))) <;> (refine R_nil ?_))) <;> ((refine thenQ_nrm ?_; (refine W_seq ?_; (refine W_cond rfl (fun ht => ?_) (fun ht => ?_) <;> (first | exact absurd ht (by decide) | (refine W_skip ?_) | (refine W_exit ?_))) <;> (first | refine thenQ_ext ?_ | (refine thenQ_nrm ?_; (refine W_seq ?_; (refine W_block ?_; (refine W_seq ?_; (refine W_rgn ?_; ((refine Ra rfl (X_mv rfl ?_)) <;> (refine Ra rfl (X_mv rfl ?_)) <;> (refine R_nil ?_))) <;> ((refine thenQ_nrm ?_; (refine W_rgn ?_; ((refine Ra rfl (X_mv rfl ?_)) <;> (refine Ra rfl (X_mv rfl ?_)) <;> (refine Ra rfl (xIa rfl rfl (by omega) (by omega) ?_)) <;> (refine Rn (xSA rfl rfl rfl (by omega) rfl ?_)) <;> (refine R_nil ?_)))))) <;> (refine blockQ_nrm ?_)) <;> ((refine thenQ_nrm ?_; (refine W_rgn ?_; ((refine Ra rfl (X_addI rfl rfl (by omega) (by omega) ?_)) <;> (refine Ra rfl (X_mv rfl ?_)) <;> (refine R_nil ?_)))))))))))) <;> (first | refine thenQ_ext ?_ | (refine thenQ_nrm ?_; (
        refine Upd.done ⟨i + 1, by omega, by omega, (by repeat' (first | exact trivial | exact rfl | constructor)), (hR ?_ (hB rfl Has.nil))⟩
        rw [← minus_step (by omega), List.map_set]; rfl)))) <;> (refine blockQ_ext ?_))))) <;> ((refine thenQ_nrm ?_; (refine W_seq ?_; (refine W_rgn ?_; ((refine Ra rfl (X_faddr rfl ?_)) <;> (refine Ra rfl (X_load (lB rfl rfl) ?_)) <;> (refine Ra rfl (xMk rfl rfl (by omega) (by omega) (by omega) rfl (fun v28 => ?_))) <;> (refine Ra rfl (X_mv rfl ?_)) <;> (refine R_nil ?_))) <;> ((refine thenQ_nrm ?_; (refine W_seq ?_; (refine W_seq ?_; (refine W_rgn ?_; ((refine Ra rfl (X_faddr rfl ?_)) <;> (refine Ra rfl (X_load (lB rfl rfl) ?_)) <;> (refine Ra rfl (xLen rfl ?_)) <;> (refine Ra rfl (X_mv rfl ?_)) <;> (refine R_nil ?_))) <;> ((refine thenQ_nrm ?_; (refine W_block ?_; ((
      obtain rfl : i = a.S.toNat := by omega
      refine wLoop (fun p : Nat × List Value => match p with | (i, ws) => [(32, .int .i64 (i : Nat))]) (fun p => match p with | (i, ws) => .arr v28 1 a.S.toNat (ws.map cV) :: .arr v16 1 a.S.toNat ((List.replicate a.S.toNat (-1 : Int)).map cI) :: .box b1 [.int .i64 a.S, .int .i64 a.L, vs, ve, vg] :: grosL ws (intoL a.S.toNat (a.ed.take i))) (fun p _ => match p with | (i, ws) => i ≤ a.ed.length ∧ ws.length = a.S.toNat) (fun p => match p with | (i, _) => a.ed.length - i) (0, List.replicate a.S.toNat (.slice none 0 0)) (by repeat' (first | exact trivial | exact rfl | constructor))
        (uGL0 a.S.toNat (by simp only [List.cons_append, List.nil_append]; exact Upd.done ⟨⟨Nat.zero_le _, by simp⟩, hR (by simp [cV]) (hR (by simp) (hB rfl (hRest (by rw [List.take_zero, intoL_zero]))))⟩)) ?_
      rintro ⟨i, ws⟩ Z2 hz2 hp
      obtain ⟨hi, hwl⟩ : i ≤ a.ed.length ∧ ws.length = a.S.toNat := hp
      have hel : i < a.ed.length → 0 ≤ (a.ed.getD i default).t ∧ (a.ed.getD i default).t < a.S := fun h => (hedg i h)
      have hil := intoL_len a.S.toNat (a.ed.take i)
      have hgl : i < a.ed.length → ((intoL a.S.toNat (a.ed.take i)).getD (a.ed.getD i default).t.toNat default).length ≤ 200000 := fun h => by
        rw [intoL_at (by have := hel h; omega)]
        have := inL_len (a.ed.take i) (a.ed.getD i default).t.toNat
        rw [List.length_take] at this
        omega) <;> (refine W_seq ?_; (refine W_rgn ?_; ((refine Ra rfl (X_lss rfl rfl (fun _ => ?_) (fun _ => ?_))) <;> (refine R_nil ?_))) <;> ((refine thenQ_nrm ?_; (refine W_seq ?_; (refine W_cond rfl (fun ht => ?_) (fun ht => ?_) <;> (first | exact absurd ht (by decide) | (refine W_skip ?_) | (refine W_exit ?_))) <;> (first | refine thenQ_ext ?_ | (refine thenQ_nrm ?_; (refine W_seq ?_; (refine W_block ?_; (refine W_seq ?_; (refine W_rgn ?_; ((refine Ra rfl (xIa rfl rfl (by omega) (by omega) ?_)) <;> (refine Ra rfl (X_load (lEA rfl (by omega)) ?_)) <;> (refine Ra rfl (X_alloc (fun b7 => ?_))) <;> (refine Rn (xSW rfl rfl rfl rfl ?_)) <;> (refine R_nil ?_))) <;> ((refine thenQ_nrm ?_; (refine W_drw ?_; ((refine Da rfl rfl (X_mv rfl ?_)) <;> (refine Da rfl rfl (X_faddr rfl ?_)) <;> (refine Da rfl rfl (X_load (lB rfl rfl) ?_)) <;> (refine Da rfl rfl (X_mv rfl ?_)) <;> (refine Da rfl rfl (X_faddr rfl ?_)) <;> (refine Da rfl rfl (X_load (lB rfl rfl) ?_)) <;> (refine Da rfl rfl (xIa rfl rfl (by omega) (by omega) ?_)) <;> (refine Da rfl rfl (X_load (lE0 rfl (by omega) rfl) ?_)) <;> (refine Da rfl rfl (X_faddr rfl ?_)) <;> (refine Da rfl rfl (X_load (lB rfl rfl) ?_)) <;> (refine Da rfl rfl (X_bsliceC (pCons rfl Parts.nil) rfl rfl rfl (fun v46 => ?_))) <;> (refine D_consR rfl (S_do rfl (xApL (k := (a.ed.getD i default).t.toNat) (a.ed.getD i default).f (by rw [hil]; exact hwl) (by omega) rfl rfl rfl (by have := hgl (by omega); omega) (fun v47 => ⟨(by (refine rDo rfl rfl (lB rfl rfl) ?_); exact Rck_nil), ?_⟩)))) <;> (refine Da rfl rfl (xIa rfl rfl (by omega) (by omega) ?_)) <;> (refine Dn rfl (xStL (k := (a.ed.getD i default).t.toNat) (by rw [List.length_set, List.length_set, hil]; exact hwl) (by rw [List.length_set]; omega) (getD_set_eq (by omega)) rfl rfl (by rw [List.length_set]) ?_)) <;> (refine D_nil ?_)))))) <;> (refine blockQ_nrm ?_)) <;> ((refine thenQ_nrm ?_; (refine W_rgn ?_; ((refine Ra rfl (X_addI rfl rfl (by omega) (by omega) ?_)) <;> (refine Ra rfl (X_mv rfl ?_)) <;> (refine R_nil ?_)))))))))))) <;> (first | refine thenQ_ext ?_ | (refine thenQ_nrm ?_; (
        refine Upd.drop .here (Upd.drop .here (Upd.done ⟨(i + 1, _), ?_, ⟨?_, ?_⟩, (by repeat' (first | exact trivial | exact rfl | constructor)), hR rfl (hR rfl (hB rfl (hRest (by rw [intoL_step (by omega) (by omega)]))))⟩))
        · show a.ed.length - (i + 1) < a.ed.length - i
          omega
        · show i + 1 ≤ a.ed.length
          omega
        · rw [List.length_set]; exact hwl)))) <;> (refine blockQ_ext ?_))))) <;> ((refine thenQ_nrm ?_; (refine W_seq ?_; (refine W_rgn ?_; ((refine Ra rfl (X_faddr rfl ?_)) <;> (refine Ra rfl (X_load (lB rfl rfl) ?_)) <;> (refine Ra rfl (X_upd ?_); (obtain rfl : i = a.ed.length := (by omega); refine uTL (f := grosL) [.arr v28 1 a.S.toNat (ws.map cV), .arr v16 1 a.S.toNat ((List.replicate a.S.toNat (-1 : Int)).map cI), .box b1 [.int .i64 a.S, .int .i64 a.L, vs, ve, vg]] rfl (by rw [intoL_len]; exact hwl) fun Zg hzg hall => ?_; refine uA v28 fun Zh hzh hf28 => ?_; refine Upd.done ?_; rw [List.take_length] at hall; have hrow : ∀ k, k < a.S.toNat → Ints Zg (ws.getD k default) (inL a.ed k) := (fun k hk => by have := hall k (by omega); rwa [intoL_at hk] at this); refine xCg (Clone1G_ok lo (l := a.en) (by omega)) rfl (fun v52 Z52 hz52 => ?_))) <;> (refine Ra rfl (X_mv rfl ?_)) <;> (refine R_nil ?_))) <;> ((refine thenQ_nrm ?_; (refine W_seq ?_; (refine W_seq ?_; (refine W_rgn ?_; ((refine Ra rfl (X_mv rfl ?_)) <;> (refine Ra rfl (xLen rfl ?_)) <;> (refine Ra rfl (X_mv rfl ?_)) <;> (refine R_nil ?_))) <;> ((refine thenQ_nrm ?_; (refine W_block ?_; ((
      refine wLoop (fun i : Nat => [(55, .int .i64 i)]) (fun i => [.arr v16 1 a.S.toNat ((startD a i).map cI), .gro v52 1 (a.en.map cI), .box b1 [.int .i64 a.S, .int .i64 a.L, vs, ve, vg]]) (fun i Zi => i ≤ a.en.length) (fun i => a.en.length - i) 0 (by repeat' (first | exact trivial | exact rfl | constructor)) (Upd.done ⟨Nat.zero_le _, (hR (by simp [startD]) (hG rfl (hB rfl Has.nil)))⟩) ?_
      intro i Z1 hz1 hp
      have hen9 := fun h : i < a.en.length => (hA.2.2.2.2.2.2.1 i h)
      have hen9' : i < a.en.length → 0 ≤ a.en.getD i default ∧ a.en.getD i default < a.S := fun h => ⟨(hen9 h).1, (hen9 h).2.1⟩
      have hsl := (startD_all hA hp).1) <;> (refine W_seq ?_; (refine W_rgn ?_; ((refine Ra rfl (X_lss rfl rfl (fun _ => ?_) (fun _ => ?_))) <;> (refine R_nil ?_))) <;> ((refine thenQ_nrm ?_; (refine W_seq ?_; (refine W_cond rfl (fun ht => ?_) (fun ht => ?_) <;> (first | exact absurd ht (by decide) | (refine W_skip ?_) | (refine W_exit ?_))) <;> (first | refine thenQ_ext ?_ | (refine thenQ_nrm ?_; (refine W_seq ?_; (refine W_block ?_; (refine W_seq ?_; (refine W_rgn ?_; ((refine Ra rfl (xIa rfl rfl (by omega) (by omega) ?_)) <;> (refine Ra rfl (X_load (lE0 rfl (by omega) rfl) ?_)) <;> (refine Ra rfl (X_mv rfl ?_)) <;> (refine R_nil ?_))) <;> ((refine thenQ_nrm ?_; (refine W_rgn ?_; ((refine Ra rfl (X_mv rfl ?_)) <;> (refine Ra rfl (X_mv rfl ?_)) <;> (refine Ra rfl (xIa rfl rfl (by omega) (by omega) ?_)) <;> (refine Rn (xSA rfl rfl rfl (by omega) rfl ?_)) <;> (refine R_nil ?_)))))) <;> (refine blockQ_nrm ?_)) <;> ((refine thenQ_nrm ?_; (refine W_rgn ?_; ((refine Ra rfl (X_addI rfl rfl (by omega) (by omega) ?_)) <;> (refine Ra rfl (X_mv rfl ?_)) <;> (refine R_nil ?_)))))))))))) <;> (first | refine thenQ_ext ?_ | (refine thenQ_nrm ?_; (
        refine Upd.done ⟨i + 1, by omega, by omega, (by repeat' (first | exact trivial | exact rfl | constructor)), (hR ?_ (hG rfl (hB rfl Has.nil)))⟩
        rw [startD_succ (by omega), List.map_set]; rfl)))) <;> (refine blockQ_ext ?_))))) <;> ((refine thenQ_nrm ?_; (refine W_seq ?_; (refine W_seq ?_; (refine W_rgn ?_; ((refine Ra rfl (X_mv rfl ?_)) <;> (refine R_nil ?_))) <;> ((refine thenQ_nrm ?_; (refine W_block ?_; ((
      obtain rfl : i = a.en.length := by omega
      refine wLoop (fun p : Nat × List Int × List Int × Value => match p with | (i, out, Q, vq) => [(11, .int .i64 (i : Nat)), (8, vq)]) (fun p => match p with | (i, out, Q, vq) => [.arr v16 1 a.S.toNat (out.map cI), .gro vq 1 (Q.map cI), .box b1 [.int .i64 a.S, .int .i64 a.L, vs, ve, vg]]) (fun p _ => match p with | (i, out, Q, vq) => Bfs a out Q i 0) (fun p => match p with | (i, _) => a.S.toNat - i) (0, startD a a.en.length, a.en, v52) (by repeat' (first | exact trivial | exact rfl | constructor)) (Upd.done ⟨Bfs.start hA, hR rfl (hG rfl (hB rfl Has.nil))⟩) ?_
      rintro ⟨i, out, Q, vq⟩ Z4 hz4 hb
      have hb : Bfs a out Q i 0 := hb
      obtain ⟨hQ, hsm⟩ := hb.small hA
      have hol := hb.len
      have hi0 := hb.i0
      have hcn := hb.cnt
      have hnn := nonneg_le out
      have hQi : i < Q.length → 0 ≤ Q.getD i default ∧ Q.getD i default < a.S := fun h => hb.rng _ (by rw [getD_eq h]; exact List.getElem_mem _)
      have hrz : i < Q.length → Ints Zg (ws.getD (Q.getD i default).toNat default) (inL a.ed (Q.getD i default).toNat) := fun h => hrow _ (by have := hQi h; omega)) <;> (refine W_seq ?_; (refine W_seq ?_; (refine W_rgn ?_; ((refine Ra rfl (X_mv rfl ?_)) <;> (refine Ra rfl (X_mv rfl ?_)) <;> (refine Ra rfl (xLen rfl ?_)) <;> (refine Ra rfl (X_lss rfl rfl (fun hh => ?_) (fun _ => ?_)); (haveI hrz9 := hrz (by omega))) <;> (refine R_nil ?_))) <;> ((refine thenQ_nrm ?_; (refine W_cond rfl (fun ht => ?_) (fun ht => ?_) <;> (first | exact absurd ht (by decide) | (refine W_skip ?_) | (refine W_exit ?_)))))) <;> (first | refine thenQ_ext ?_ | (refine thenQ_nrm ?_; (refine W_seq ?_; (refine W_block ?_; (refine W_seq ?_; (refine W_rgn ?_; ((refine Ra rfl (X_mv rfl ?_)) <;> (refine Ra rfl (X_mv rfl ?_)) <;> (refine Ra rfl (X_mv rfl ?_)) <;> (refine Ra rfl (xIa rfl rfl (by omega) (by omega) ?_)) <;> (refine Ra rfl (X_load (lE0 rfl (by omega) rfl) ?_)) <;> (refine Ra rfl (xIa rfl rfl (by omega) (by omega) ?_)) <;> (refine Ra rfl (X_load (lE0 rfl (by omega) rfl) ?_)) <;> (refine Ra rfl (xLen rfl ?_)) <;> (refine Ra rfl (X_mv rfl ?_)) <;> (refine R_nil ?_))) <;> ((refine thenQ_nrm ?_; (refine W_block ?_; ((
      refine wLoop (fun p : Nat × List Int × List Int × Value => match p with | (j, out, Q, vq) => [(77, .int .i64 (j : Nat)), (8, vq)]) (fun p => match p with | (j, out, Q, vq) => [.arr v16 1 a.S.toNat (out.map cI), .gro vq 1 (Q.map cI), .box b1 [.int .i64 a.S, .int .i64 a.L, vs, ve, vg]]) (fun p _ => match p with | (j, out1, Q1, vq1) => Bfs a out1 Q1 i j ∧ j ≤ (inL a.ed (Q.getD i default).toNat).length ∧ i < Q1.length ∧ Q1.getD i default = Q.getD i default) (fun p => match p with | (j, _) => (inL a.ed (Q.getD i default).toNat).length - j) (0, out, Q, vq) (by repeat' (first | exact trivial | exact rfl | constructor)) (Upd.done ⟨⟨hb, Nat.zero_le _, (by omega), rfl⟩, hR rfl (hG rfl (hB rfl Has.nil))⟩) ?_
      rintro ⟨j, out1, Q1, vq1⟩ Z5 hz5 hp5
      obtain ⟨hb1, hj1, hi1, hq1⟩ : Bfs a out1 Q1 i j ∧ j ≤ (inL a.ed (Q.getD i default).toNat).length ∧ i < Q1.length ∧ Q1.getD i default = Q.getD i default := hp5
      obtain ⟨hQ1, hsm1⟩ := hb1.small hA
      have hol1 := hb1.len
      have hrl5 := inL_len a.ed (Q.getD i default).toNat
      have hjr : j < (inL a.ed (Q.getD i default).toNat).length → 0 ≤ (inL a.ed (Q.getD i default).toNat).getD j default ∧ (inL a.ed (Q.getD i default).toNat).getD j default < a.S := fun h => inL_rng hA h
      have hq2 := hsm1 _ (show Q1.getD i default ∈ Q1 by rw [getD_eq hi1]; exact List.getElem_mem _)
      have hq3 : 0 ≤ Q1.getD i default ∧ Q1.getD i default < a.S := by rw [hq1]; exact hQi (by omega)) <;> (refine W_seq ?_; (refine W_rgn ?_; ((refine Ra rfl (X_lss rfl rfl (fun _ => ?_) (fun _ => ?_))) <;> (refine R_nil ?_))) <;> ((refine thenQ_nrm ?_; (refine W_seq ?_; (refine W_cond rfl (fun ht => ?_) (fun ht => ?_) <;> (first | exact absurd ht (by decide) | (refine W_skip ?_) | (refine W_exit ?_))) <;> (first | refine thenQ_ext ?_ | (refine thenQ_nrm ?_; (refine W_seq ?_; (refine W_block ?_; (refine W_seq ?_; (refine W_rgn ?_; ((refine Ra rfl (xIa rfl rfl (by omega) (by omega) ?_)) <;> (refine Ra rfl (X_load (lE0 rfl (by omega) rfl) ?_)) <;> (refine Ra rfl (X_mv rfl ?_)) <;> (refine R_nil ?_))) <;> ((refine thenQ_nrm ?_; (refine W_seq ?_; (refine W_rgn ?_; ((refine Ra rfl (X_mv rfl ?_)) <;> (refine Ra rfl (X_mv rfl ?_)) <;> (refine Ra rfl (xIa rfl rfl (by omega) (by omega) ?_)) <;> (refine Ra rfl (X_load (lE0 rfl (by omega) rfl) ?_)) <;> (refine Ra rfl (X_lss rfl rfl (fun _ => ?_) (fun _ => ?_))) <;> (refine R_nil ?_))) <;> ((refine thenQ_nrm ?_; (refine W_cond rfl (fun ht => ?_) (fun ht => ?_) <;> (first | exact absurd ht (by decide) | (refine W_seq ?_; (refine W_rgn ?_; ((refine Ra rfl (X_mv rfl ?_)) <;> (refine Ra rfl (X_mv rfl ?_)) <;> (refine Ra rfl (X_mv rfl ?_)) <;> (refine Ra rfl (X_mv rfl ?_)) <;> (refine Ra rfl (X_mv rfl ?_)) <;> (refine Ra rfl (xIa rfl rfl (by omega) (by omega) ?_)) <;> (refine Ra rfl (X_load (lE0 rfl (by omega) rfl) ?_)) <;> (refine Ra rfl (xIa rfl rfl (by omega) (by omega) ?_)) <;> (refine Ra rfl (X_load (lE0 rfl (by omega) rfl) ?_)) <;> (refine Ra rfl (X_addI rfl rfl (by omega) (by omega) ?_)) <;> (refine Ra rfl (xIa rfl rfl (by omega) (by omega) ?_)) <;> (refine Rn (xSA rfl rfl rfl (by omega) rfl ?_)) <;> (refine R_nil ?_))) <;> ((refine thenQ_nrm ?_; (refine W_rgn ?_; ((refine Ra rfl (X_mv rfl ?_)) <;> (refine Ra rfl (X_mv rfl ?_)) <;> (refine Ra rfl (X_bsliceC (pCons rfl Parts.nil) rfl rfl rfl (fun v99 => ?_))) <;> (refine Ra rfl (xApGm (fe := cI) ((inL a.ed (Q.getD i default).toNat).getD j default) rfl rfl rfl (by omega) (fun v100 => ?_))) <;> (refine Ra rfl (X_mv rfl ?_)) <;> (refine R_nil ?_)))))) | (refine W_skip ?_))))))))) <;> (refine blockQ_nrm ?_)) <;> ((refine thenQ_nrm ?_; (refine W_rgn ?_; ((refine Ra rfl (X_addI rfl rfl (by omega) (by omega) ?_)) <;> (refine Ra rfl (X_mv rfl ?_)) <;> (refine R_nil ?_)))))))))))) <;> (first | refine thenQ_ext ?_ | (refine thenQ_nrm ?_; (
        first
          | (have hb2 := hb1.add hA hi1 (by rw [hq1]; omega) rfl (by rw [hq1]; exact hjr (by omega)) (by rw [hq1]; assumption)
             refine Upd.done ⟨(j + 1, _, _, _), ?_, ⟨hb2, ?_, ?_, ?_⟩, (by repeat' (first | exact trivial | exact rfl | constructor)), hR ?_ (hG ?_ (hB rfl Has.nil))⟩
             · show (inL a.ed (Q.getD i default).toNat).length - (j + 1) < (inL a.ed (Q.getD i default).toNat).length - j
               omega
             · show j + 1 ≤ (inL a.ed (Q.getD i default).toNat).length
               omega
             · rw [List.length_append]; omega
             · rw [getD_app hi1]; exact hq1
             · rw [hq1, List.map_set]; rfl
             · rw [hq1])
          | (have hb2 := hb1.skip (by rw [hq1]; exact hjr (by omega)) (by rw [hq1]; assumption)
             refine Upd.done ⟨(j + 1, out1, Q1, vq1), ?_, ⟨hb2, ?_, hi1, hq1⟩, (by repeat' (first | exact trivial | exact rfl | constructor)), hR rfl (hG rfl (hB rfl Has.nil))⟩
             · show (inL a.ed (Q.getD i default).toNat).length - (j + 1) < (inL a.ed (Q.getD i default).toNat).length - j
               omega
             · show j + 1 ≤ (inL a.ed (Q.getD i default).toNat).length
               omega))))) <;> (refine blockQ_ext ?_))))) <;> (refine blockQ_nrm ?_)) <;> ((refine thenQ_nrm ?_; (refine W_rgn ?_; ((refine Ra rfl (X_mv rfl ?_)) <;> (refine Ra rfl (X_addI rfl rfl (by omega) (by omega) ?_)) <;> (refine Ra rfl (X_mv rfl ?_)) <;> (refine R_nil ?_))))))))) <;> (first | refine thenQ_ext ?_ | (refine thenQ_nrm ?_; (
        refine Upd.done ⟨(i + 1, out1, Q1, vq1), ?_, ?_, (by repeat' (first | exact trivial | exact rfl | constructor)), hR rfl (hG rfl (hB rfl Has.nil))⟩
        · show a.S.toNat - (i + 1) < a.S.toNat - i
          omega
        · exact hb1.row hA hi1 (by rw [hq1]; omega))))) <;> (refine blockQ_ext ?_))))) <;> ((refine thenQ_nrm ?_; (refine W_seq ?_; (refine W_rgn ?_; ((refine Ra rfl (X_mv rfl ?_)) <;> (refine Ra rfl (X_mv rfl ?_)) <;> (refine R_nil ?_))) <;> ((refine thenQ_nrm ?_; (refine W_ret ?_))))))))))))))))))))))))))))
  <;> (refine fn_ret (Res.tmp rfl Res.nil) ?_)
  all_goals
    refine uA v16 fun Z9 hz9 f3 => Upd.nil ⟨rfl, _, hb.fin hA (by omega), f3⟩
end Go.Proofs.Ytbjgnogcjglcoaa.Hm.V
