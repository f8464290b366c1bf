import Derived.Test.YtlidnionbofkaaaHF
import Derived.Test.YtlidnionbofkaaaA6
import Derived.Test.YtlidnionbofkaaaVQ2
namespace Go.Proofs.Ytlidnionbofkaaa.Hm.V
open Go
set_option linter.all false
set_option maxRecDepth 100000
attribute [local irreducible] X XG S R D W Call CallG Upd Rds Rck Sees Res Cel CallP fnQ fnG
theorem lexF_len : ∀ (f : Nat) (s : List UInt8) (u : Tok), u ∈ lexF f s → u.length ≤ s.length
  | 0, s, u, h => absurd h (by simp [lexF])
  | f + 1, s, u, h => by
    cases s with
    | nil => simp [lexF] at h
    | cons c cs =>
      simp only [lexF] at h
      split at h
      · have := lexF_len f cs u h
        rw [List.length_cons]; omega
      · split at h
        · rw [List.mem_singleton.1 h]; simp
        · rcases List.mem_cons.1 h with h | h
          · rw [h, List.length_take]; omega
          · have := lexF_len f _ u h
            rw [List.length_drop] at this
            omega
theorem lexL_len {s : List UInt8} {u : Tok} (h : u ∈ lexL s) : u.length ≤ s.length := lexF_len _ s u h
structure SU (s : List UInt8) (a : Nat) (t : Tok) (L : List Tok) : Prop where
  st : St s a t L
  len : t.length ≤ s.length
theorem St_su {s : List UInt8} {a a0 : Nat} {t : Tok} {L : List Tok} (h : St s a t L) (e : L = lexL (s.drop a0)) : SU s a t L := ⟨h, by
  cases L with
  | nil => rw [h.1]; simp
  | cons u r =>
    have h2 : u ∈ lexL (s.drop a0) := by rw [← e]; simp
    have := lexL_len h2
    rw [List.length_drop] at this
    rw [h.1]; omega⟩
def outP (w k : Int) (vv : Value) (s : List UInt8) (b : Nat) (ρ : Value → Vw → List Tok → Prop) (no : Prop) : Rv → Vw → List Pt → Prop := fun r Z O' => match r with
  | .ret v => ∃ a1 t1 L1, O' = [rdB w k vv s b a1 t1] ∧ SU s a1 t1 L1 ∧ ρ v Z L1
  | .pan v => ∃ a1 t1, v = PV ∧ O' = [rdB w k vv s b a1 t1] ∧ no
theorem St_cons {s : List UInt8} {a : Nat} {t : Tok} {L : List Tok} (h : SU s a t L) (h0 : t ≠ []) : ∃ r, L = t :: r := by
  replace h := h.st
  cases L with
  | nil => exact absurd h.1 h0
  | cons u r => obtain rfl := h.1; exact ⟨r, rfl⟩
theorem St_nil {s : List UInt8} {a : Nat} {L : List Tok} (h : SU s a [] L) : L = [] := by
  replace h := h.st
  cases L with
  | nil => rfl
  | cons u r => exact absurd h.1.symm h.2.1
theorem next2_ok (lo : Nat) {w k : Int} {vv : Value} {s : List UInt8} {b a : Nat} {t : Tok} {L : List Tok} (hs : s.length < 1000000) (h : SU s a t L) (h0 : t ≠ []) {Z : Vw} : CallG F lo 40 [.pointer (some ⟨b, 0, none⟩)] Z [rdB w k vv s b a t] (outP w k vv s b (fun _ _ L1 => advT L = some L1) (advT L = none)) :=
  (next_ok lo hs h.st.le).mono fun r Z' O' hz q => by
    obtain ⟨r1, rfl⟩ := St_cons h h0
    have hrest := h.st.rest
    rw [hrest, List.tail_cons] at q
    rw [advT_cons]
    cases r with
    | ret v =>
      obtain ⟨a1, t1, e, hS, hn⟩ := q
      exact ⟨a1, t1, r1, e, St_su hS (by rw [hrest]; rfl), if_neg hn⟩
    | pan v =>
      obtain ⟨a1, t1, e, e2, hn⟩ := q
      exact ⟨a1, t1, e, e2, if_pos hn⟩
theorem takeT_ok {s : List UInt8} {a : Nat} {t m : Tok} {L : List Tok} (h : SU s a t L) (h0 : m ≠ []) (e : t = m) : takeT m L = advT L := by
  subst e
  obtain ⟨r, rfl⟩ := St_cons h h0
  rw [takeT]; exact if_pos rfl
theorem takeT_no {s : List UInt8} {a : Nat} {t m : Tok} {L : List Tok} (h : SU s a t L) (e : t ≠ m) : takeT m L = none := by
  replace h := h.st
  cases L with
  | nil => rfl
  | cons u r => obtain rfl := h.1; rw [takeT]; exact if_neg e
theorem numT_ok {nv : Tok → Int} {s : List UInt8} {a : Nat} {t : Tok} {L L1 : List Tok} (h : SU s a t L) (h0 : t ≠ []) (h1 : isDig (t.getD 0 default) = true) (e : advT L = some L1) : numT nv L = some (nv t, L1) := by
  obtain ⟨r, rfl⟩ := St_cons h h0
  have h2 : isNum t = true := by
    cases t with
    | nil => exact absurd rfl h0
    | cons c t => exact h1
  simp only [numT, if_pos h2, e]
theorem numT_none {nv : Tok → Int} {s : List UInt8} {a : Nat} {t : Tok} {L : List Tok} (h : SU s a t L) (e : advT L = none) : numT nv L = none := by
  replace h := h.st
  cases L with
  | nil => rfl
  | cons u r =>
    simp only [numT, e]
    split <;> rfl
theorem numT_no {nv : Tok → Int} {s : List UInt8} {a : Nat} {t : Tok} {L : List Tok} (h : SU s a t L) (h1 : t = [] ∨ ¬ isDig (t.getD 0 default) = true) : numT nv L = none := by
  replace h := h.st
  cases L with
  | nil => rfl
  | cons u r =>
    obtain rfl := h.1
    have h2 : ¬ isNum t = true := by
      cases t with
      | nil => exact absurd rfl h.2.1
      | cons c t => exact h1.resolve_left (by simp)
    simp only [numT, if_neg h2]
abbrev numQ (L : List Tok) : Value → Vw → List Tok → Prop := fun v _ L1 => ∃ n, v = .int .i64 n ∧ numT numP L = some (n, L1)
theorem getD_0 {t : Tok} (h : t ≠ []) : 0 < t.length := by
  cases t with
  | nil => exact absurd rfl h
  | cons c t => simp
set_option maxHeartbeats 4000000 in
theorem take_ok (lo : Nat) {w k : Int} {vv : Value} {s : List UInt8} {b a : Nat} {t : Tok} {L : List Tok} (hs : s.length < 1000000) (hS : SU s a t L) {m : Tok} (hm : m ≠ []) {Z : Vw} : CallG F lo 93 [.pointer (some ⟨b, 0, none⟩), .string ⟨⟨m⟩⟩] Z [rdB w k vv s b a t] (outP w k vv s b (fun _ _ L1 => takeT m L = some L1) (takeT m L = none)) := by
  have hne : t = m → t ≠ [] := fun e => e ▸ hm
  refine FnG (fn := c93) rfl rfl rfl ?_
  (refine W_seq ?_; (refine W_seq ?_; (refine W_rgn ?_; ((refine Ra rfl (X_mv rfl ?_)) <;> (refine Ra rfl (X_nilchk rfl ?_)) <;> (refine Ra rfl (X_faddr rfl ?_)) <;> (refine Ra rfl (X_load (lB rfl rfl) ?_)) <;> (refine Ra rfl (X_mv rfl ?_)) <;> (refine Ra rfl (xNeL rfl rfl (fun _ => ?_) (fun _ => ?_))) <;> (refine R_nil ?_))) <;> ((refine thenQ_nrm ?_; (refine W_cond rfl (fun ht => ?_) (fun ht => ?_) <;> (first | exact absurd ht (by decide) | (refine W_rgn ?_; ((refine Ra rfl (X_buildC (pCons rfl Parts.nil) rfl ?_)) <;> (refine Ra rfl (X_mkif rfl ?_)) <;> (refine RnG (xPan rfl (by (repeat (first | refine thenQ_pan ?_ | refine blockQ_pan ?_)); refine fnG_pan ?_; exact Upd.has (L := [rdB w k vv s b _ _]) (hB rfl Has.nil) ⟨_, _, rfl, rfl, by first | (rw [takeT_ok hS hm (by assumption)]; assumption) | exact takeT_no hS (by assumption)⟩))) <;> (refine R_nil ?_))) | (refine W_skip ?_)))))) <;> ((refine thenQ_nrm ?_; (refine W_rgn ?_; ((refine Ra rfl (X_mv rfl ?_)) <;> (refine RaG rfl (xNG (next2_ok lo hs hS (by first | assumption | exact hne (by assumption))) rfl (pB rfl Pick.nil) (fun r13 Z13 o13 hz13 hq O2 hO => ?_) (fun _ Zp op hzp hq O2 hO => (by obtain ⟨ap, tp, rfl, rfl, hrp⟩ := hq; simp only [List.cons_append, List.nil_append] at hO; subst hO; exact (by (repeat (first | refine thenQ_pan ?_ | refine blockQ_pan ?_)); refine fnG_pan ?_; exact Upd.has (L := [rdB w k vv s b _ _]) (hB rfl Has.nil) ⟨_, _, rfl, rfl, by first | (rw [takeT_ok hS hm (by assumption)]; assumption) | exact takeT_no hS (by assumption)⟩)))); (obtain ⟨a13, t13, L13, rfl, hS13, hr13⟩ := hq; simp only [List.cons_append, List.nil_append] at hO; subst hO)) <;> (refine R_nil ?_))))))
  <;> (refine fnG_nrm Res.nil ?_)
  all_goals
    refine Upd.has (L := [rdB w k vv s b _ _]) (hB rfl Has.nil) ⟨_, _, _, rfl, by assumption, ?_⟩
    rw [takeT_ok hS hm (by assumption)]
    assumption
set_option maxHeartbeats 4000000 in
theorem sign_ok (lo : Nat) {Z : Vw} (op : Int) : CallP F lo 78 [.int .i64 op] Z fun r _ => r = .string ⟨⟨signV op⟩⟩ := by
  refine FnP (fn := c78) rfl rfl rfl ?_
  (refine W_seq ?_; (refine W_rgn ?_; ((refine Ra rfl (X_mv rfl ?_)) <;> (refine R_nil ?_))) <;> ((refine thenQ_nrm ?_; (refine W_seq ?_; (refine W_seq ?_; (refine W_rgn ?_; ((refine Ra rfl (X_mv rfl ?_)) <;> (refine R_nil ?_))) <;> ((refine thenQ_nrm ?_; (refine W_block ?_; (refine W_seq ?_; (refine W_rgn ?_; ((refine Ra rfl (X_eql rfl rfl (fun _ => ?_) (fun _ => ?_))) <;> (refine Ra rfl (X_mv rfl ?_)) <;> (refine R_nil ?_))) <;> ((refine thenQ_nrm ?_; (refine W_cond rfl (fun ht => ?_) (fun ht => ?_) <;> (first | exact absurd ht (by decide) | (refine W_seq ?_; (refine W_rgn ?_; ((refine Ra rfl (X_mv rfl ?_)) <;> (refine R_nil ?_))) <;> ((refine thenQ_nrm ?_; (refine W_ret ?_)))) | (refine W_seq ?_; (refine W_rgn ?_; ((refine Ra rfl (X_eql rfl rfl (fun _ => ?_) (fun _ => ?_))) <;> (refine Ra rfl (X_mv rfl ?_)) <;> (refine R_nil ?_))) <;> ((refine thenQ_nrm ?_; (refine W_cond rfl (fun ht => ?_) (fun ht => ?_) <;> (first | exact absurd ht (by decide) | (refine W_seq ?_; (refine W_rgn ?_; ((refine Ra rfl (X_mv rfl ?_)) <;> (refine R_nil ?_))) <;> ((refine thenQ_nrm ?_; (refine W_ret ?_)))) | (refine W_seq ?_; (refine W_rgn ?_; ((refine Ra rfl (X_eql rfl rfl (fun _ => ?_) (fun _ => ?_))) <;> (refine Ra rfl (X_mv rfl ?_)) <;> (refine R_nil ?_))) <;> ((refine thenQ_nrm ?_; (refine W_cond rfl (fun ht => ?_) (fun ht => ?_) <;> (first | exact absurd ht (by decide) | (refine W_seq ?_; (refine W_rgn ?_; ((refine Ra rfl (X_mv rfl ?_)) <;> (refine R_nil ?_))) <;> ((refine thenQ_nrm ?_; (refine W_ret ?_)))) | (refine W_seq ?_; (refine W_rgn ?_; ((refine Ra rfl (X_eql rfl rfl (fun _ => ?_) (fun _ => ?_))) <;> (refine Ra rfl (X_mv rfl ?_)) <;> (refine R_nil ?_))) <;> ((refine thenQ_nrm ?_; (refine W_cond rfl (fun ht => ?_) (fun ht => ?_) <;> (first | exact absurd ht (by decide) | (refine W_seq ?_; (refine W_rgn ?_; ((refine Ra rfl (X_mv rfl ?_)) <;> (refine R_nil ?_))) <;> ((refine thenQ_nrm ?_; (refine W_ret ?_)))) | (refine W_seq ?_; (refine W_rgn ?_; ((refine Ra rfl (X_eql rfl rfl (fun _ => ?_) (fun _ => ?_))) <;> (refine Ra rfl (X_mv rfl ?_)) <;> (refine R_nil ?_))) <;> ((refine thenQ_nrm ?_; (refine W_cond rfl (fun ht => ?_) (fun ht => ?_) <;> (first | exact absurd ht (by decide) | (refine W_seq ?_; (refine W_rgn ?_; ((refine Ra rfl (X_mv rfl ?_)) <;> (refine R_nil ?_))) <;> ((refine thenQ_nrm ?_; (refine W_ret ?_)))) | (refine W_seq ?_; (refine W_rgn ?_; ((refine Ra rfl (X_eql rfl rfl (fun _ => ?_) (fun _ => ?_))) <;> (refine Ra rfl (X_mv rfl ?_)) <;> (refine R_nil ?_))) <;> ((refine thenQ_nrm ?_; (refine W_cond rfl (fun ht => ?_) (fun ht => ?_) <;> (first | exact absurd ht (by decide) | (refine W_seq ?_; (refine W_rgn ?_; ((refine Ra rfl (X_mv rfl ?_)) <;> (refine R_nil ?_))) <;> ((refine thenQ_nrm ?_; (refine W_ret ?_)))) | (refine W_seq ?_; (refine W_rgn ?_; ((refine Ra rfl (X_eql rfl rfl (fun _ => ?_) (fun _ => ?_))) <;> (refine Ra rfl (X_mv rfl ?_)) <;> (refine R_nil ?_))) <;> ((refine thenQ_nrm ?_; (refine W_cond rfl (fun ht => ?_) (fun ht => ?_) <;> (first | exact absurd ht (by decide) | (refine W_seq ?_; (refine W_rgn ?_; ((refine Ra rfl (X_mv rfl ?_)) <;> (refine R_nil ?_))) <;> ((refine thenQ_nrm ?_; (refine W_ret ?_)))) | (refine W_seq ?_; (refine W_rgn ?_; ((refine Ra rfl (X_eql rfl rfl (fun _ => ?_) (fun _ => ?_))) <;> (refine Ra rfl (X_mv rfl ?_)) <;> (refine R_nil ?_))) <;> ((refine thenQ_nrm ?_; (refine W_cond rfl (fun ht => ?_) (fun ht => ?_) <;> (first | exact absurd ht (by decide) | (refine W_seq ?_; (refine W_rgn ?_; ((refine Ra rfl (X_mv rfl ?_)) <;> (refine R_nil ?_))) <;> ((refine thenQ_nrm ?_; (refine W_ret ?_)))) | (refine W_seq ?_; (refine W_rgn ?_; ((refine Ra rfl (X_eql rfl rfl (fun _ => ?_) (fun _ => ?_))) <;> (refine Ra rfl (X_mv rfl ?_)) <;> (refine R_nil ?_))) <;> ((refine thenQ_nrm ?_; (refine W_cond rfl (fun ht => ?_) (fun ht => ?_) <;> (first | exact absurd ht (by decide) | (refine W_seq ?_; (refine W_rgn ?_; ((refine Ra rfl (X_mv rfl ?_)) <;> (refine R_nil ?_))) <;> ((refine thenQ_nrm ?_; (refine W_ret ?_)))) | (refine W_seq ?_; (refine W_rgn ?_; ((refine Ra rfl (X_eql rfl rfl (fun _ => ?_) (fun _ => ?_))) <;> (refine Ra rfl (X_mv rfl ?_)) <;> (refine R_nil ?_))) <;> ((refine thenQ_nrm ?_; (refine W_cond rfl (fun ht => ?_) (fun ht => ?_) <;> (first | exact absurd ht (by decide) | (refine W_seq ?_; (refine W_rgn ?_; ((refine Ra rfl (X_mv rfl ?_)) <;> (refine R_nil ?_))) <;> ((refine thenQ_nrm ?_; (refine W_ret ?_)))) | (refine W_seq ?_; (refine W_rgn ?_; ((refine Ra rfl (X_eql rfl rfl (fun _ => ?_) (fun _ => ?_))) <;> (refine Ra rfl (X_mv rfl ?_)) <;> (refine R_nil ?_))) <;> ((refine thenQ_nrm ?_; (refine W_cond rfl (fun ht => ?_) (fun ht => ?_) <;> (first | exact absurd ht (by decide) | (refine W_seq ?_; (refine W_rgn ?_; ((refine Ra rfl (X_mv rfl ?_)) <;> (refine R_nil ?_))) <;> ((refine thenQ_nrm ?_; (refine W_ret ?_)))) | (refine W_seq ?_; (refine W_rgn ?_; ((refine Ra rfl (X_eql rfl rfl (fun _ => ?_) (fun _ => ?_))) <;> (refine Ra rfl (X_mv rfl ?_)) <;> (refine R_nil ?_))) <;> ((refine thenQ_nrm ?_; (refine W_cond rfl (fun ht => ?_) (fun ht => ?_) <;> (first | exact absurd ht (by decide) | (refine W_seq ?_; (refine W_rgn ?_; ((refine Ra rfl (X_mv rfl ?_)) <;> (refine R_nil ?_))) <;> ((refine thenQ_nrm ?_; (refine W_ret ?_)))) | (refine W_skip ?_))))))))))))))))))))))))))))))))))))))))))))))))))))))))))))) <;> (first | refine blockQ_nrm ?_ | refine blockQ_ret ?_))))) <;> (first | refine thenQ_ret ?_ | (refine thenQ_nrm ?_; (refine W_seq ?_; (refine W_rgn ?_; ((refine Ra rfl (X_mv rfl ?_)) <;> (refine R_nil ?_))) <;> ((refine thenQ_nrm ?_; (refine W_ret ?_))))))))))
  <;> (refine fnP_ret (Res.tmp rfl Res.nil) ?_)
  all_goals
    unfold signV signL
    first
      | (subst_vars; rfl)
      | (refine congrArg (fun x => Value.string ⟨⟨x⟩⟩) ?_
         rw [List.find?_eq_none.2]
         · rfl
         · simp only [List.mem_cons, List.not_mem_nil, or_false, decide_eq_true_eq, forall_eq_or_imp, forall_eq]
           omega)
set_option maxHeartbeats 4000000 in
theorem number_ok (lo : Nat) {w k : Int} {vv : Value} {s : List UInt8} {b a : Nat} {t : Tok} {L : List Tok} (hs : s.length < 1000000) (hS : SU s a t L)  {Z : Vw} : CallG F lo 75 [.pointer (some ⟨b, 0, none⟩)] Z [rdB w k vv s b a t] (outP w k vv s b (numQ L) (numT numP L = none)) := by
  refine FnG (fn := c75) rfl rfl rfl ?_
  (refine W_seq ?_; (refine W_rgn ?_; ((refine Ra rfl (X_mv rfl ?_)) <;> (refine R_nil ?_))) <;> ((refine thenQ_nrm ?_; (refine W_seq ?_; (refine W_seq ?_; (refine W_rgn ?_; ((refine Ra rfl (X_mv rfl ?_)) <;> (refine Ra rfl (X_nilchk rfl ?_)) <;> (refine Ra rfl (X_faddr rfl ?_)) <;> (refine Ra rfl (X_load (lB rfl rfl) ?_)) <;> (refine Ra rfl (xEqL rfl rfl (fun he9 => ?_) (fun he9 => ?_)); (all_goals (try (have hn0 := getD_0 he9)))) <;> (refine Ra rfl (X_mv rfl ?_)) <;> (first | (refine Rb rfl rfl (X_mv rfl ?_)) | (refine Rc rfl rfl ?_)) <;> (first | (refine Rb rfl rfl (X_nilchk rfl ?_)) | (refine Rc rfl rfl ?_)) <;> (first | (refine Rb rfl rfl (X_faddr rfl ?_)) | (refine Rc rfl rfl ?_)) <;> (first | (refine Rb rfl rfl (X_load (lB rfl rfl) ?_)) | (refine Rc rfl rfl ?_)) <;> (first | (refine Rb rfl rfl (xIdL rfl rfl (by omega) (by omega) ?_)) | (refine Rc rfl rfl ?_)) <;> (first | (refine Rb rfl rfl (xP (isDigit_ok lo _) rfl (fun _ Z16 hz16 hb16 => ?_)); (obtain ⟨b16, rfl, hb16⟩ := hb16; cases b16 <;> simp only [Bool.false_eq_true, false_iff, true_iff] at hb16)) | (refine Rc rfl rfl ?_)) <;> (first | (refine Rb rfl rfl (X_not rfl ?_)) | (refine Rc rfl rfl ?_)) <;> (first | (refine Ra rfl (X_pickT rfl rfl ?_)) | (refine Ra rfl (X_pickF rfl rfl ?_))) <;> (refine R_nil ?_))) <;> ((refine thenQ_nrm ?_; (refine W_cond rfl (fun ht => ?_) (fun ht => ?_) <;> (first | exact absurd ht (by decide) | (refine W_rgn ?_; ((refine Ra rfl (X_buildC (pCons rfl Parts.nil) rfl ?_)) <;> (refine Ra rfl (X_mkif rfl ?_)) <;> (refine RnG (xPan rfl (by (repeat (first | refine thenQ_pan ?_ | refine blockQ_pan ?_)); refine fnG_pan ?_; exact Upd.has (L := [rdB w k vv s b _ _]) (hB rfl Has.nil) ⟨_, _, rfl, rfl, by first | exact numT_none hS (by assumption) | exact numT_no hS (.inl (by assumption)) | exact numT_no hS (.inr (by assumption))⟩))) <;> (refine R_nil ?_))) | (refine W_skip ?_)))))) <;> ((refine thenQ_nrm ?_; (refine W_seq ?_; (refine W_rgn ?_; ((refine Ra rfl (X_mv rfl ?_)) <;> (refine R_nil ?_))) <;> ((refine thenQ_nrm ?_; (refine W_seq ?_; (refine W_seq ?_; (refine W_rgn ?_; ((refine Ra rfl (X_mv rfl ?_)) <;> (refine R_nil ?_))) <;> ((refine thenQ_nrm ?_; (refine W_block ?_; ((
      have htl := hS.len
      have hnb := fun i => numP_le (t.take i)
      refine wLoop (fun i : Nat => [(3, .int .i64 (numP (t.take i))), (4, .int .i64 i)]) (fun _ => [rdB w k vv s b a t]) (fun i _ => i ≤ t.length) (fun i => t.length - i) 0 (by repeat' (first | exact trivial | exact rfl | constructor)) (Upd.done ⟨Nat.zero_le _, hB rfl Has.nil⟩) ?_
      intro i Z1 hz1 hi
      have hni := numP_le (t.take i)
      have hdi := dgV_le (t.getD i default)) <;> (refine W_seq ?_; (refine W_seq ?_; (refine W_rgn ?_; ((refine Ra rfl (X_mv rfl ?_)) <;> (refine Ra rfl (X_mv rfl ?_)) <;> (refine Ra rfl (X_nilchk rfl ?_)) <;> (refine Ra rfl (X_faddr rfl ?_)) <;> (refine Ra rfl (X_load (lB rfl rfl) ?_)) <;> (refine Ra rfl (xLenL rfl ?_)) <;> (refine Ra rfl (X_lss rfl rfl (fun _ => ?_) (fun _ => ?_))) <;> (refine R_nil ?_))) <;> ((refine thenQ_nrm ?_; (refine W_cond rfl (fun ht => ?_) (fun ht => ?_) <;> (first | exact absurd ht (by decide) | (refine W_skip ?_) | (refine W_exit ?_)))))) <;> (first | refine thenQ_ext ?_ | (refine thenQ_nrm ?_; (refine W_seq ?_; (refine W_block ?_; (refine W_rgn ?_; ((refine Ra rfl (X_mv rfl ?_)) <;> (refine Ra rfl (X_mulI rfl rfl (by first | omega | assumption) (by first | omega | assumption) ?_)) <;> (refine Ra rfl (X_mv rfl ?_)) <;> (refine Ra rfl (X_nilchk rfl ?_)) <;> (refine Ra rfl (X_faddr rfl ?_)) <;> (refine Ra rfl (X_load (lB rfl rfl) ?_)) <;> (refine Ra rfl (X_mv rfl ?_)) <;> (refine Ra rfl (xIdL rfl rfl (by omega) (by omega) ?_)) <;> (refine Ra rfl (X_sub48 rfl rfl ?_)) <;> (refine Ra rfl (X_convD rfl ?_)) <;> (refine Ra rfl (X_addI rfl rfl (by omega) (by omega) ?_)) <;> (refine Ra rfl (X_min rfl rfl ?_)) <;> (refine Ra rfl (X_mv rfl ?_)) <;> (refine R_nil ?_))) <;> (refine blockQ_nrm ?_)) <;> ((refine thenQ_nrm ?_; (refine W_rgn ?_; ((refine Ra rfl (X_mv rfl ?_)) <;> (refine Ra rfl (X_addI rfl rfl (by omega) (by omega) ?_)) <;> (refine Ra rfl (X_mv rfl ?_)) <;> (refine R_nil ?_))))))))) <;> (first | refine thenQ_ext ?_ | (refine thenQ_nrm ?_; (
        refine Upd.done ⟨i + 1, by omega, by omega, ?_, hB rfl Has.nil⟩
        rw [numP_take (by omega)]
        exact (by repeat' (first | exact trivial | exact rfl | constructor)))))) <;> (refine blockQ_ext ?_))))) <;> ((refine thenQ_nrm ?_; (refine W_seq ?_; (refine W_rgn ?_; ((refine Ra rfl (X_mv rfl ?_)) <;> (refine RaG rfl (xNG (next2_ok lo hs hS (by first | assumption | exact hne (by assumption))) rfl (pB rfl Pick.nil) (fun r43 Z43 o43 hz43 hq O2 hO => ?_) (fun _ Zp op hzp hq O2 hO => (by obtain ⟨ap, tp, rfl, rfl, hrp⟩ := hq; simp only [List.cons_append, List.nil_append] at hO; subst hO; exact (by (repeat (first | refine thenQ_pan ?_ | refine blockQ_pan ?_)); refine fnG_pan ?_; exact Upd.has (L := [rdB w k vv s b _ _]) (hB rfl Has.nil) ⟨_, _, rfl, rfl, by first | exact numT_none hS (by assumption) | exact numT_no hS (.inl (by assumption)) | exact numT_no hS (.inr (by assumption))⟩)))); (obtain ⟨a43, t43, L43, rfl, hS43, hr43⟩ := hq; simp only [List.cons_append, List.nil_append] at hO; subst hO)) <;> (refine R_nil ?_))) <;> ((refine thenQ_nrm ?_; (refine W_seq ?_; (refine W_rgn ?_; ((refine Ra rfl (X_mv rfl ?_)) <;> (refine Ra rfl (X_mv rfl ?_)) <;> (refine R_nil ?_))) <;> ((refine thenQ_nrm ?_; (refine W_ret ?_)))))))))))))))))))
  <;> (refine fnG_ret (Res.tmp rfl Res.nil) ?_)
  all_goals
    have hi9 : i = t.length := by omega
    subst hi9
    rw [List.take_length]
    refine Upd.has (L := [rdB w k vv s b _ _]) (hB rfl Has.nil) ⟨_, _, _, rfl, by assumption, _, rfl, numT_ok hS he9 (by assumption) (by assumption)⟩
end Go.Proofs.Ytlidnionbofkaaa.Hm.V
