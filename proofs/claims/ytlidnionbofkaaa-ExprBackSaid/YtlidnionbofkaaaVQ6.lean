import Derived.Test.YtlidnionbofkaaaHF
import Derived.Test.YtlidnionbofkaaaA6
import Derived.Test.YtlidnionbofkaaaVQ5
namespace Go.Proofs.Ytlidnionbofkaaa.Hm.V
open Go
set_option linter.all false
set_option maxRecDepth 100000
attribute [local irreducible] X XG S R D W Call CallG Upd Rds Rck Sees Res Cel CallP fnQ fnG
theorem exprR_none {nv : Tok → Int} {cp : Bool} {vs : List Vr} {rec : Prs} {L : List Tok} (e : advT L = none) : exprR nv cp vs rec L = none := by
  cases L with
  | nil => rfl
  | cons t r =>
    simp only [exprR, e, readR_none e, numT]
    repeat' split
    all_goals first | rfl | (rename_i h; split at h <;> cases h) | skip
def exprK (rec : Prs) (L1 : List Tok) : Option (Ex × List Tok) := match rec L1 with
  | none => none
  | some (a, L2) => some (.mk 12 0 0 [a], L2)
theorem exprR_12 {nv : Tok → Int} {cp : Bool} {vs : List Vr} {rec : Prs} {s : List UInt8} {a : Nat} {t : Tok} {L L1 : List Tok} (h : SU s a t L) (e : t = [126]) (e1 : advT L = some L1) : exprR nv cp vs rec L = exprK rec L1 := by
  subst e
  obtain ⟨r, rfl⟩ := St_cons h (by simp)
  rw [exprR, if_pos rfl]
  simp only [e1]
  rfl
theorem exprK_n {rec : Prs} {L1 : List Tok} (e : rec L1 = none) : exprK rec L1 = none := by simp only [exprK, e]
theorem exprK_g {rec : Prs} {L1 L2 : List Tok} {x : Ex} (e : Got rec L1 x L2) : exprK rec L1 = some (.mk 12 0 0 [x], L2) ∨ (exprK rec L1 = none ∧ L2.head? = some [64]) := by
  rcases e with e | e
  · exact .inl (by simp only [exprK, e])
  · exact .inr ⟨exprK_n e.1, e.2⟩
theorem exprR_p {nv : Tok → Int} {cp : Bool} {vs : List Vr} {rec : Prs} {s : List UInt8} {a : Nat} {t : Tok} {L L1 : List Tok} (h : SU s a t L) (e : t = [40]) (e1 : advT L = some L1) : exprR nv cp vs rec L = groupR rec L1 := by
  subst e
  obtain ⟨r, rfl⟩ := St_cons h (by simp)
  rw [exprR, if_neg (by decide), if_pos rfl]
  simp only [e1]
theorem exprR_w {nv : Tok → Int} {cp : Bool} {vs : List Vr} {rec : Prs} {s : List UInt8} {a : Nat} {t : Tok} {L : List Tok} (h : SU s a t L) (e1 : ¬ t = [126]) (e2 : ¬ t = [40]) (h0 : t ≠ []) (h1 : (97 : Int) ≤ ((t.getD 0 default).toNat : Nat)) (h2 : ((t.getD 0 default).toNat : Nat) ≤ (122 : Int)) : exprR nv cp vs rec L = readR nv cp vs rec L := by
  obtain ⟨r, rfl⟩ := St_cons h h0
  have hw : isWrd t = true := by
    cases t with
    | nil => exact absurd rfl h0
    | cons c t =>
      simp only [List.getD_cons_zero] at h1 h2
      simp only [isWrd, isLet, decide_eq_true_eq]; omega
  rw [exprR, if_neg e1, if_neg e2, if_pos hw]
theorem exprR_n {nv : Tok → Int} {cp : Bool} {vs : List Vr} {rec : Prs} {s : List UInt8} {a : Nat} {t : Tok} {L : List Tok} (h : SU s a t L) (e1 : ¬ t = [126]) (e2 : ¬ t = [40]) (h0 : t = [] ∨ ¬ (97 : Int) ≤ ((t.getD 0 default).toNat : Nat) ∨ ¬ ((t.getD 0 default).toNat : Nat) ≤ (122 : Int)) : exprR nv cp vs rec L = match numT nv L with
    | none => none
    | some (n, L1) => some (.mk 0 n 0 [], L1) := by
  replace h := h.st
  cases L with
  | nil => rfl
  | cons u r =>
    obtain rfl := h.1
    have hw : ¬ isWrd t = true := by
      cases t with
      | nil => exact absurd rfl h.2.1
      | cons c t =>
        replace h0 := h0.resolve_left (by simp)
        simp only [List.getD_cons_zero] at h0
        simp only [isWrd, isLet, decide_eq_true_eq]; omega
    rw [exprR, if_neg e1, if_neg e2, if_neg hw]
    rfl
set_option maxHeartbeats 4000000 in
theorem expr1_ok (lo : Nat) {Z : Vw} {w k : Int} {vv : Value} {s : List UInt8} {b a : Nat} {t : Tok} {L : List Tok} (hs : s.length < 1000000) (hS : SU s a t L) {vs : List Vr} {rec : Prs} {cp : Bool} {m : Nat} (hcp : cp = true ↔ 1 < k) (hd : ∀ i j, j < i → i < vs.length → (vs.getD j default).nm ≠ (vs.getD i default).nm) (hvl : vs.length < 9223372036854775808) (hE : ExOK F lo w k vv s b vs rec m) (hm : L.length < m + 1) (hv : Vrs Z vv vs) : CallG F lo 41 [.pointer (some ⟨b, 0, none⟩)] Z [rdB w k vv s b a t] (outP w k vv s b (exQ (exprR numP cp vs rec L) L) (exprR numP cp vs rec L = none)) := by
  have hl0 := hm
  refine FnG (fn := c41) rfl rfl rfl ?_
  (refine W_seq ?_; (refine W_rgn ?_; ((refine Ra rfl (X_alloc (fun b2 => ?_))) <;> (refine R_nil ?_))) <;> ((refine thenQ_nrm ?_; (refine W_seq ?_; (refine W_block ?_; (refine W_seq ?_; (refine W_rgn ?_; ((refine Ra rfl (X_mv rfl ?_)) <;> (refine Ra rfl (X_nilchk rfl ?_)) <;> (refine Ra rfl (X_faddr rfl ?_)) <;> (refine Ra rfl (X_load (lB rfl rfl) ?_)) <;> (refine Ra rfl (xEqL rfl rfl (fun he8 => ?_) (fun he8 => ?_))) <;> (refine Ra rfl (X_mv rfl ?_)) <;> (refine R_nil ?_))) <;> ((refine thenQ_nrm ?_; (refine W_cond rfl (fun ht => ?_) (fun ht => ?_) <;> (first | exact absurd ht (by decide) | (refine W_seq ?_; (refine W_rgn ?_; ((refine Ra rfl (X_mv rfl ?_)) <;> (refine RaG rfl (xNG (next2_ok lo hs (by assumption) (by first | assumption | (rename_i e9; rw [e9]; decide) | (intro e9; subst e9; simp at *))) rfl (pB rfl Pick.nil) (fun r10 Z10 o10 hz10 hq O2 hO => ?_) (fun _ Zp op hzp hq O2 hO => (by obtain ⟨ap, tp, rfl, rfl, hrp⟩ := hq; simp only [List.cons_append, List.nil_append] at hO; subst hO; exact (by (repeat (first | refine thenQ_pan ?_ | refine blockQ_pan ?_)); refine fnG_pan ?_; exact Upd.has (L := [rdB w k vv s b _ _]) (hB rfl Has.nil) ⟨_, _, rfl, rfl, by (first | exact exprR_none hrp | (rw [exprR_12 hS he8 hr10]; exact exprK_n hrp) | (rw [exprR_p hS he20 hr22]; exact hrp) | (rw [exprR_w hS he8 he20 he30 (by omega) (by omega)]; exact hrp) | (rw [exprR_n hS he8 he20 (by (first | exact .inl he30 | exact .inr (.inl he37) | exact .inr (.inr he45) | exact .inr (.inl (by omega)) | exact .inr (.inr (by omega)))), hrp]))⟩)))); (obtain ⟨a10, t10, L10, rfl, hS10, hr10⟩ := hq; simp only [List.cons_append, List.nil_append] at hO; subst hO; have hl10 := advT_len hr10)) <;> (refine R_nil ?_))) <;> ((refine thenQ_nrm ?_; (refine W_seq ?_; (refine W_rgn ?_; ((refine Ra rfl (X_mv rfl ?_)) <;> (refine RaG rfl (xNG (hE (by assumption) (Fz.le (by assumption) ZC.le) (by omega)) rfl (pB rfl Pick.nil) (fun r12 Z12 o12 hz12 hq O2 hO => ?_) (fun _ Zp op hzp hq O2 hO => (by obtain ⟨ap, tp, rfl, rfl, hrp⟩ := hq; simp only [List.cons_append, List.nil_append] at hO; subst hO; exact (by (repeat (first | refine thenQ_pan ?_ | refine blockQ_pan ?_)); refine fnG_pan ?_; exact Upd.has (L := [rdB w k vv s b _ _]) (hB rfl Has.nil) ⟨_, _, rfl, rfl, by (first | exact exprR_none hrp | (rw [exprR_12 hS he8 hr10]; exact exprK_n hrp) | (rw [exprR_p hS he20 hr22]; exact hrp) | (rw [exprR_w hS he8 he20 he30 (by omega) (by omega)]; exact hrp) | (rw [exprR_n hS he8 he20 (by (first | exact .inl he30 | exact .inr (.inl he37) | exact .inr (.inr he45) | exact .inr (.inl (by omega)) | exact .inr (.inr (by omega)))), hrp]))⟩)))); (obtain ⟨a12, t12, L12, rfl, hS12, hr12⟩ := hq; simp only [List.cons_append, List.nil_append] at hO; subst hO; obtain ⟨hl12, ⟨o12, n12, c12, v12, ks12⟩, rfl, ht12, he12⟩ := hr12)) <;> (refine Ra rfl (X_bsliceC (pCons rfl Parts.nil) rfl rfl rfl (fun v13 => ?_))) <;> (refine Ra rfl (X_buildC (pCons rfl (pCons rfl Parts.nil)) rfl ?_)) <;> (refine Rn (xSW rfl rfl rfl rfl ?_)) <;> (refine R_nil ?_))) <;> ((refine thenQ_nrm ?_; (refine W_ret ?_))))))) | (refine W_seq ?_; (refine W_rgn ?_; ((refine Ra rfl (X_mv rfl ?_)) <;> (refine Ra rfl (X_nilchk rfl ?_)) <;> (refine Ra rfl (X_faddr rfl ?_)) <;> (refine Ra rfl (X_load (lB rfl rfl) ?_)) <;> (refine Ra rfl (xEqL rfl rfl (fun he20 => ?_) (fun he20 => ?_))) <;> (refine Ra rfl (X_mv rfl ?_)) <;> (refine R_nil ?_))) <;> ((refine thenQ_nrm ?_; (refine W_cond rfl (fun ht => ?_) (fun ht => ?_) <;> (first | exact absurd ht (by decide) | (refine W_seq ?_; (refine W_rgn ?_; ((refine Ra rfl (X_mv rfl ?_)) <;> (refine RaG rfl (xNG (next2_ok lo hs (by assumption) (by first | assumption | (rename_i e9; rw [e9]; decide) | (intro e9; subst e9; simp at *))) rfl (pB rfl Pick.nil) (fun r22 Z22 o22 hz22 hq O2 hO => ?_) (fun _ Zp op hzp hq O2 hO => (by obtain ⟨ap, tp, rfl, rfl, hrp⟩ := hq; simp only [List.cons_append, List.nil_append] at hO; subst hO; exact (by (repeat (first | refine thenQ_pan ?_ | refine blockQ_pan ?_)); refine fnG_pan ?_; exact Upd.has (L := [rdB w k vv s b _ _]) (hB rfl Has.nil) ⟨_, _, rfl, rfl, by (first | exact exprR_none hrp | (rw [exprR_12 hS he8 hr10]; exact exprK_n hrp) | (rw [exprR_p hS he20 hr22]; exact hrp) | (rw [exprR_w hS he8 he20 he30 (by omega) (by omega)]; exact hrp) | (rw [exprR_n hS he8 he20 (by (first | exact .inl he30 | exact .inr (.inl he37) | exact .inr (.inr he45) | exact .inr (.inl (by omega)) | exact .inr (.inr (by omega)))), hrp]))⟩)))); (obtain ⟨a22, t22, L22, rfl, hS22, hr22⟩ := hq; simp only [List.cons_append, List.nil_append] at hO; subst hO; have hl22 := advT_len hr22)) <;> (refine R_nil ?_))) <;> ((refine thenQ_nrm ?_; (refine W_seq ?_; (refine W_rgn ?_; ((refine Ra rfl (X_mv rfl ?_)) <;> (refine RaG rfl (xNG (group_ok lo hs (by assumption) hE (by omega) (Fz.le (by assumption) ZC.le)) rfl (pB rfl Pick.nil) (fun r24 Z24 o24 hz24 hq O2 hO => ?_) (fun _ Zp op hzp hq O2 hO => (by obtain ⟨ap, tp, rfl, rfl, hrp⟩ := hq; simp only [List.cons_append, List.nil_append] at hO; subst hO; exact (by (repeat (first | refine thenQ_pan ?_ | refine blockQ_pan ?_)); refine fnG_pan ?_; exact Upd.has (L := [rdB w k vv s b _ _]) (hB rfl Has.nil) ⟨_, _, rfl, rfl, by (first | exact exprR_none hrp | (rw [exprR_12 hS he8 hr10]; exact exprK_n hrp) | (rw [exprR_p hS he20 hr22]; exact hrp) | (rw [exprR_w hS he8 he20 he30 (by omega) (by omega)]; exact hrp) | (rw [exprR_n hS he8 he20 (by (first | exact .inl he30 | exact .inr (.inl he37) | exact .inr (.inr he45) | exact .inr (.inl (by omega)) | exact .inr (.inr (by omega)))), hrp]))⟩)))); (obtain ⟨a24, t24, L24, rfl, hS24, hr24⟩ := hq; simp only [List.cons_append, List.nil_append] at hO; subst hO; obtain ⟨hl24, ⟨o24, n24, c24, v24, ks24⟩, rfl, ht24, he24⟩ := hr24)) <;> (refine Rn (xSW rfl rfl rfl rfl ?_)) <;> (refine R_nil ?_))) <;> ((refine thenQ_nrm ?_; (refine W_ret ?_))))))) | (refine W_seq ?_; (refine W_rgn ?_; ((refine Ra rfl (X_mv rfl ?_)) <;> (refine Ra rfl (X_nilchk rfl ?_)) <;> (refine Ra rfl (X_faddr rfl ?_)) <;> (refine Ra rfl (X_load (lB rfl rfl) ?_)) <;> (refine Ra rfl (xNeL rfl rfl (fun he30 => ?_) (fun he30 => ?_)); (all_goals (try (have hn0 := getD_0 he30)))) <;> (refine Ra rfl (X_mv rfl ?_)) <;> (first | (refine Rb rfl rfl (X_mv rfl ?_)) | (refine Rc rfl rfl ?_)) <;> (first | (refine Rb rfl rfl (X_nilchk rfl ?_)) | (refine Rc rfl rfl ?_)) <;> (first | (refine Rb rfl rfl (X_faddr rfl ?_)) | (refine Rc rfl rfl ?_)) <;> (first | (refine Rb rfl rfl (X_load (lB rfl rfl) ?_)) | (refine Rc rfl rfl ?_)) <;> (first | (refine Rb rfl rfl (xIdL rfl rfl (by omega) (by omega) ?_)) | (refine Rc rfl rfl ?_)) <;> (first | (refine Rb rfl rfl (X_geq rfl rfl (fun he37 => ?_) (fun he37 => ?_))) | (refine Rc rfl rfl ?_)) <;> (first | (refine Ra rfl (X_pickT rfl rfl ?_)) | (refine Ra rfl (X_pickF rfl rfl ?_))) <;> (refine Ra rfl (X_mv rfl ?_)) <;> (first | (refine Rb rfl rfl (X_mv rfl ?_)) | (refine Rc rfl rfl ?_)) <;> (first | (refine Rb rfl rfl (X_nilchk rfl ?_)) | (refine Rc rfl rfl ?_)) <;> (first | (refine Rb rfl rfl (X_faddr rfl ?_)) | (refine Rc rfl rfl ?_)) <;> (first | (refine Rb rfl rfl (X_load (lB rfl rfl) ?_)) | (refine Rc rfl rfl ?_)) <;> (first | (refine Rb rfl rfl (xIdL rfl rfl (by omega) (by omega) ?_)) | (refine Rc rfl rfl ?_)) <;> (first | (refine Rb rfl rfl (X_leq rfl rfl (fun he45 => ?_) (fun he45 => ?_))) | (refine Rc rfl rfl ?_)) <;> (first | (refine Ra rfl (X_pickT rfl rfl ?_)) | (refine Ra rfl (X_pickF rfl rfl ?_))) <;> (refine Ra rfl (X_mv rfl ?_)) <;> (refine R_nil ?_))) <;> ((refine thenQ_nrm ?_; (refine W_cond rfl (fun ht => ?_) (fun ht => ?_) <;> (first | exact absurd ht (by decide) | (refine W_seq ?_; (refine W_rgn ?_; ((refine Ra rfl (X_mv rfl ?_)) <;> (refine RaG rfl (xNG (read_ok lo hs hS hcp hd hvl hE he30 (by omega) (Fz.le (by assumption) ZC.le)) rfl (pB rfl Pick.nil) (fun r48 Z48 o48 hz48 hq O2 hO => ?_) (fun _ Zp op hzp hq O2 hO => (by obtain ⟨ap, tp, rfl, rfl, hrp⟩ := hq; simp only [List.cons_append, List.nil_append] at hO; subst hO; exact (by (repeat (first | refine thenQ_pan ?_ | refine blockQ_pan ?_)); refine fnG_pan ?_; exact Upd.has (L := [rdB w k vv s b _ _]) (hB rfl Has.nil) ⟨_, _, rfl, rfl, by (first | exact exprR_none hrp | (rw [exprR_12 hS he8 hr10]; exact exprK_n hrp) | (rw [exprR_p hS he20 hr22]; exact hrp) | (rw [exprR_w hS he8 he20 he30 (by omega) (by omega)]; exact hrp) | (rw [exprR_n hS he8 he20 (by (first | exact .inl he30 | exact .inr (.inl he37) | exact .inr (.inr he45) | exact .inr (.inl (by omega)) | exact .inr (.inr (by omega)))), hrp]))⟩)))); (obtain ⟨a48, t48, L48, rfl, hS48, hr48⟩ := hq; simp only [List.cons_append, List.nil_append] at hO; subst hO; obtain ⟨hl48, ⟨o48, n48, c48, v48, ks48⟩, rfl, ht48, he48⟩ := hr48)) <;> (refine Rn (xSW rfl rfl rfl rfl ?_)) <;> (refine R_nil ?_))) <;> ((refine thenQ_nrm ?_; (refine W_ret ?_)))) | (refine W_skip ?_)))))))))))))))) <;> (first | refine blockQ_nrm ?_ | refine blockQ_ret ?_)) <;> (first | refine thenQ_ret ?_ | (refine thenQ_nrm ?_; (refine W_seq ?_; (refine W_rgn ?_; ((refine Ra rfl (X_mv rfl ?_)) <;> (refine RaG rfl (xNG (number_ok lo hs (by assumption)) rfl (pB rfl Pick.nil) (fun r50 Z50 o50 hz50 hq O2 hO => ?_) (fun _ Zp op hzp hq O2 hO => (by obtain ⟨ap, tp, rfl, rfl, hrp⟩ := hq; simp only [List.cons_append, List.nil_append] at hO; subst hO; exact (by (repeat (first | refine thenQ_pan ?_ | refine blockQ_pan ?_)); refine fnG_pan ?_; exact Upd.has (L := [rdB w k vv s b _ _]) (hB rfl Has.nil) ⟨_, _, rfl, rfl, by (first | exact exprR_none hrp | (rw [exprR_12 hS he8 hr10]; exact exprK_n hrp) | (rw [exprR_p hS he20 hr22]; exact hrp) | (rw [exprR_w hS he8 he20 he30 (by omega) (by omega)]; exact hrp) | (rw [exprR_n hS he8 he20 (by (first | exact .inl he30 | exact .inr (.inl he37) | exact .inr (.inr he45) | exact .inr (.inl (by omega)) | exact .inr (.inr (by omega)))), hrp]))⟩)))); (obtain ⟨a50, t50, L50, rfl, hS50, hr50⟩ := hq; simp only [List.cons_append, List.nil_append] at hO; subst hO; obtain ⟨n50, rfl, hn50⟩ := hr50; have hl50 := numT_len hn50)) <;> (refine Ra rfl (X_buildC (pCons rfl (pCons rfl Parts.nil)) rfl ?_)) <;> (refine Rn (xSW rfl rfl rfl rfl ?_)) <;> (refine R_nil ?_))) <;> ((refine thenQ_nrm ?_; (refine W_ret ?_))))))))))
  <;> (refine fnG_ret (rA rfl rfl Res.nil) ?_)
  all_goals
    first
      | (refine uA v13 fun Za hza hfa => Upd.has (L := [rdB w k vv s b _ _]) (hB rfl Has.nil) ⟨_, _, _, rfl, by assumption, ?_, .mk 12 0 0 v13 [.mk o12 n12 c12 v12 ks12], rfl, Tr_one hfa ht12 ZC.le, ?_⟩
         · omega
         · rw [exprR_12 hS he8 hr10]
           exact exprK_g he12)
      | (refine Upd.has (L := [rdB w k vv s b _ _]) (hB rfl Has.nil) ⟨_, _, _, rfl, by assumption, ?_, .mk o24 n24 c24 v24 ks24, rfl, ht24, ?_⟩
         · omega
         · rw [exprR_p hS he20 hr22]
           exact he24)
      | (refine Upd.has (L := [rdB w k vv s b _ _]) (hB rfl Has.nil) ⟨_, _, _, rfl, by assumption, ?_, .mk o48 n48 c48 v48 ks48, rfl, ht48, ?_⟩
         · omega
         · rw [exprR_w hS he8 he20 he30 (by omega) (by omega)]
           exact he48)
      | (refine Upd.has (L := [rdB w k vv s b _ _]) (hB rfl Has.nil) ⟨_, _, _, rfl, by assumption, ?_, .mk 0 n50 0 (.slice none 0 0) [], rfl, Tr_none _ _ _ _, .inl ?_⟩
         · omega
         · rw [exprR_n hS he8 he20 (by (first | exact .inl he30 | exact .inr (.inl he37) | exact .inr (.inr he45) | exact .inr (.inl (by omega)) | exact .inr (.inr (by omega)))), hn50]
           rfl)
theorem expr_ok (lo : Nat) {w k : Int} {vv : Value} {s : List UInt8} {b : Nat} (hs : s.length < 1000000) {vs : List Vr} {cp : Bool} (hcp : cp = true ↔ 1 < k) (hd : ∀ i j, j < i → i < vs.length → (vs.getD j default).nm ≠ (vs.getD i default).nm) (hvl : vs.length < 9223372036854775808) : ∀ f, ExOK F lo w k vv s b vs (exprF numP cp vs f) f
  | 0 => fun _ _ h => absurd h (Nat.not_lt_zero _)
  | f + 1 => fun hS hv hm => expr1_ok lo hs hS hcp hd hvl (expr_ok lo hs hcp hd hvl f) hm hv
end Go.Proofs.Ytlidnionbofkaaa.Hm.V
