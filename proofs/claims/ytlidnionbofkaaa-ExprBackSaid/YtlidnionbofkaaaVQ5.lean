import Derived.Test.YtlidnionbofkaaaHF
import Derived.Test.YtlidnionbofkaaaA6
import Derived.Test.YtlidnionbofkaaaVQ4
namespace Go.Proofs.Ytlidnionbofkaaa.Hm.V
open Go
set_option linter.all false
set_option maxRecDepth 100000
attribute [local irreducible] X XG S R D W Call CallG Upd Rds Rck Sees Res Cel CallP fnQ fnG
theorem not_stuck {s : List UInt8} {a : Nat} {t : Tok} {L : List Tok} {α : Type} {res : Option α} {x : α} (h : SU s a t L) (h0 : t ≠ [64]) (e : res = some x ∨ (res = none ∧ L.head? = some [64])) : res = some x := by
  rcases e with e | ⟨_, e⟩
  · exact e
  · replace h := h.st
    cases L with
    | nil => cases e
    | cons u r => obtain rfl := h.1; exact absurd (by simpa using e) h0
def groupO (rec : Prs) (op : Int) (a : Ex) (L3 : List Tok) : Option (Ex × List Tok) := match rec L3 with
  | none => none
  | some (b, L4) => match takeT [41] L4 with
    | none => none
    | some L5 => some (.mk op 0 0 [a, b], L5)
def groupQ (rec : Prs) (a : Ex) (L3 : List Tok) : Option (Ex × List Tok) := match rec L3 with
  | none => none
  | some (b, L4) => match takeT [58] L4 with
    | none => none
    | some L5 => match rec L5 with
      | none => none
      | some (c, L6) => match takeT [41] L6 with
        | none => none
        | some L7 => some (.mk 15 0 0 [a, b, c], L7)
def groupK (rec : Prs) (a : Ex) (L2 : List Tok) : Option (Ex × List Tok) := match L2 with
  | [] => none
  | u :: r => if u = [63] then (match advT (u :: r) with
      | none => none
      | some L3 => groupQ rec a L3)
    else match opT u with
      | none => none
      | some op => match advT (u :: r) with
        | none => none
        | some L3 => groupO rec op a L3
theorem groupR_n {rec : Prs} {L : List Tok} (e : rec L = none) : groupR rec L = none := by simp only [groupR, e]
theorem groupR_k {rec : Prs} {L L2 : List Tok} {a : Ex} (e : rec L = some (a, L2)) : groupR rec L = groupK rec a L2 := by
  simp only [groupR, e]; rfl
theorem groupK_n {rec : Prs} {L : List Tok} {a : Ex} (e : advT L = none) : groupK rec a L = none := by
  cases L with
  | nil => rfl
  | cons u r =>
    simp only [groupK, e]
    split
    · rfl
    · split <;> rfl
theorem groupK_63 {rec : Prs} {s : List UInt8} {a : Nat} {t : Tok} {L L3 : List Tok} {x : Ex} (h : SU s a t L) (e : t = [63]) (e1 : advT L = some L3) : groupK rec x L = groupQ rec x L3 := by
  subst e
  obtain ⟨r, rfl⟩ := St_cons h (by simp)
  rw [groupK, if_pos rfl]
  simp only [e1]
theorem groupK_no {rec : Prs} {s : List UInt8} {a : Nat} {t : Tok} {L : List Tok} {x : Ex} (h : SU s a t L) (e : ¬ t = [63]) (e0 : opT t = none) : groupK rec x L = none := by
  replace h := h.st
  cases L with
  | nil => rfl
  | cons u r =>
    obtain rfl := h.1
    rw [groupK, if_neg e]
    simp only [e0]
theorem groupK_op {rec : Prs} {s : List UInt8} {a : Nat} {t : Tok} {L L3 : List Tok} {x : Ex} {op : Int} (h : SU s a t L) (e : ¬ t = [63]) (e0 : opT t = some op) (h0 : t ≠ []) (e1 : advT L = some L3) : groupK rec x L = groupO rec op x L3 := by
  obtain ⟨r, rfl⟩ := St_cons h h0
  rw [groupK, if_neg e]
  simp only [e0, e1]
abbrev Got (rec : Prs) (L : List Tok) (x : Ex) (L1 : List Tok) : Prop := rec L = some (x, L1) ∨ (rec L = none ∧ L1.head? = some [64])
theorem Got.take {rec : Prs} {L L1 L2 : List Tok} {x : Ex} {m : Tok} (e : Got rec L x L1) (hm : m ≠ [64]) (e2 : takeT m L1 = some L2) : rec L = some (x, L1) := by
  rcases e with e | e
  · exact e
  · rw [takeT_stuck e.2 hm] at e2; cases e2
theorem groupO_n1 {rec : Prs} {op : Int} {a : Ex} {L : List Tok} (e : rec L = none) : groupO rec op a L = none := by simp only [groupO, e]
theorem groupO_n2 {rec : Prs} {op : Int} {a b : Ex} {L L1 : List Tok} (e : Got rec L b L1) (e2 : takeT [41] L1 = none) : groupO rec op a L = none := by
  rcases e with e | e
  · simp only [groupO, e, e2]
  · simp only [groupO, e.1]
theorem groupO_ok {rec : Prs} {op : Int} {a b : Ex} {L L1 L2 : List Tok} (e : Got rec L b L1) (e2 : takeT [41] L1 = some L2) : groupO rec op a L = some (.mk op 0 0 [a, b], L2) := by
  have e := e.take (by decide) e2
  simp only [groupO, e, e2]
theorem groupQ_n1 {rec : Prs} {a : Ex} {L : List Tok} (e : rec L = none) : groupQ rec a L = none := by simp only [groupQ, e]
theorem groupQ_n2 {rec : Prs} {a b : Ex} {L L1 : List Tok} (e : Got rec L b L1) (e2 : takeT [58] L1 = none) : groupQ rec a L = none := by
  rcases e with e | e
  · simp only [groupQ, e, e2]
  · simp only [groupQ, e.1]
theorem groupQ_n3 {rec : Prs} {a b : Ex} {L L1 L2 : List Tok} (e : Got rec L b L1) (e2 : takeT [58] L1 = some L2) (e3 : rec L2 = none) : groupQ rec a L = none := by
  have e := e.take (by decide) e2
  simp only [groupQ, e, e2, e3]
theorem groupQ_n4 {rec : Prs} {a b c : Ex} {L L1 L2 L3 : List Tok} (e : Got rec L b L1) (e2 : takeT [58] L1 = some L2) (e3 : Got rec L2 c L3) (e4 : takeT [41] L3 = none) : groupQ rec a L = none := by
  have e := e.take (by decide) e2
  rcases e3 with e3 | e3
  · simp only [groupQ, e, e2, e3, e4]
  · simp only [groupQ, e, e2, e3.1]
theorem groupQ_ok {rec : Prs} {a b c : Ex} {L L1 L2 L3 L4 : List Tok} (e : Got rec L b L1) (e2 : takeT [58] L1 = some L2) (e3 : Got rec L2 c L3) (e4 : takeT [41] L3 = some L4) : groupQ rec a L = some (.mk 15 0 0 [a, b, c], L4) := by
  have e := e.take (by decide) e2
  have e3 := e3.take (by decide) e4
  simp only [groupQ, e, e2, e3, e4]
theorem Tr_two {Z1 Z2 Z' : Vw} {op n c : Int} {v : Value} {t u : Et} (hf : Fz Z' 4 v [t.cs, u.cs]) (ht : Tr Z1 t) (hz1 : Z1.le Z') (hu : Tr Z2 u) (hz2 : Z2.le Z') : Tr Z' (.mk op n c v [t, u]) := Tr_mk.2 ⟨⟨hf, by simp⟩, fun a ha => by
  simp only [List.mem_cons, List.not_mem_nil, or_false] at ha
  rcases ha with rfl | rfl
  · exact ht.le hz1
  · exact hu.le hz2⟩
theorem Tr_three {Z1 Z2 Z3 Z' : Vw} {op n c : Int} {v : Value} {t u x : Et} (hf : Fz Z' 4 v [t.cs, u.cs, x.cs]) (ht : Tr Z1 t) (hz1 : Z1.le Z') (hu : Tr Z2 u) (hz2 : Z2.le Z') (hx : Tr Z3 x) (hz3 : Z3.le Z') : Tr Z' (.mk op n c v [t, u, x]) := Tr_mk.2 ⟨⟨hf, by simp⟩, fun a ha => by
  simp only [List.mem_cons, List.not_mem_nil, or_false] at ha
  rcases ha with rfl | rfl | rfl
  · exact ht.le hz1
  · exact hu.le hz2
  · exact hx.le hz3⟩
set_option maxHeartbeats 4000000 in
theorem group_ok (lo : Nat) {Z : Vw} {w k : Int} {vv : Value} {s : List UInt8} {b a : Nat} {t : Tok} {L : List Tok} (hs : s.length < 1000000) (hS : SU s a t L) {vs : List Vr} {rec : Prs} {m : Nat} (hE : ExOK F lo w k vv s b vs rec m) (hm : L.length < m) (hv : Vrs Z vv vs) : CallG F lo 73 [.pointer (some ⟨b, 0, none⟩)] Z [rdB w k vv s b a t] (outP w k vv s b (exQ (groupR rec L) L) (groupR rec L = none)) := by
  have hl0 := hm
  refine FnG (fn := c73) rfl rfl rfl ?_
  (refine W_seq ?_; (refine W_rgn ?_; ((refine Ra rfl (X_alloc (fun b2 => ?_))) <;> (refine R_nil ?_))) <;> ((refine thenQ_nrm ?_; (refine W_seq ?_; (refine W_rgn ?_; ((refine Ra rfl (X_mv rfl ?_)) <;> (refine RaG rfl (xNG (hE (by assumption) (Fz.le (by assumption) ZC.le) (by omega)) rfl (pB rfl Pick.nil) (fun r10 Z10 o10 hz10 hq O2 hO => ?_) (fun _ Zp op hzp hq O2 hO => (by obtain ⟨ap, tp, rfl, rfl, hrp⟩ := hq; simp only [List.cons_append, List.nil_append] at hO; subst hO; exact (by (repeat (first | refine thenQ_pan ?_ | refine blockQ_pan ?_)); refine fnG_pan ?_; exact Upd.has (L := [rdB w k vv s b _ _]) (hB rfl Has.nil) ⟨_, _, rfl, rfl, by (first | exact groupR_n hrp | (refine Or.elim he10 (fun e10 => ?_) (fun e10 => groupR_n e10.1); rw [groupR_k e10]; (first | exact groupK_n hrp | (rw [groupK_63 hS10 he15 hr17]; (first | exact groupQ_n1 hrp | exact groupQ_n2 he19 hrp | exact groupQ_n3 he19 hr21 hrp | exact groupQ_n4 he19 hr21 he23 hrp)) | (rw [groupK_op hS10 he15 (by rw [he45]; exact opT_sign (by omega) (by omega) he38) hn10 hr48]; (first | exact groupO_n1 hrp | exact groupO_n2 he50 hrp)) | exact groupK_no hS10 he15 (opT_none fun j h1 h2 => hp j h1 (by omega)))))⟩)))); (obtain ⟨a10, t10, L10, rfl, hS10, hr10⟩ := hq; simp only [List.cons_append, List.nil_append] at hO; subst hO; obtain ⟨hl10, ⟨o10, n10, c10, v10, ks10⟩, rfl, ht10, he10⟩ := hr10)) <;> (refine Ra rfl (X_alloc (fun b3 => ?_))) <;> (refine Rn (xSW rfl rfl rfl rfl ?_)) <;> (refine R_nil ?_))) <;> ((refine thenQ_nrm ?_; (refine W_seq ?_; (refine W_seq ?_; (refine W_rgn ?_; ((refine Ra rfl (X_mv rfl ?_)) <;> (refine Ra rfl (X_nilchk rfl ?_)) <;> (refine Ra rfl (X_faddr rfl ?_)) <;> (refine Ra rfl (X_load (lB rfl rfl) ?_)) <;> (refine Ra rfl (xEqL rfl rfl (fun he15 => ?_) (fun he15 => ?_))) <;> (refine R_nil ?_))) <;> ((refine thenQ_nrm ?_; (refine W_cond rfl (fun ht => ?_) (fun ht => ?_) <;> (first | exact absurd ht (by decide) | (refine W_seq ?_; (refine W_rgn ?_; ((refine Ra rfl (X_mv rfl ?_)) <;> (refine RaG rfl (xNG (next2_ok lo hs (by assumption) (by first | assumption | (rename_i e9; rw [e9]; decide) | (intro e9; subst e9; simp at *))) rfl (pB rfl Pick.nil) (fun r17 Z17 o17 hz17 hq O2 hO => ?_) (fun _ Zp op hzp hq O2 hO => (by obtain ⟨ap, tp, rfl, rfl, hrp⟩ := hq; simp only [List.cons_append, List.nil_append] at hO; subst hO; exact (by (repeat (first | refine thenQ_pan ?_ | refine blockQ_pan ?_)); refine fnG_pan ?_; exact Upd.has (L := [rdB w k vv s b _ _]) (hB rfl Has.nil) ⟨_, _, rfl, rfl, by (first | exact groupR_n hrp | (refine Or.elim he10 (fun e10 => ?_) (fun e10 => groupR_n e10.1); rw [groupR_k e10]; (first | exact groupK_n hrp | (rw [groupK_63 hS10 he15 hr17]; (first | exact groupQ_n1 hrp | exact groupQ_n2 he19 hrp | exact groupQ_n3 he19 hr21 hrp | exact groupQ_n4 he19 hr21 he23 hrp)) | (rw [groupK_op hS10 he15 (by rw [he45]; exact opT_sign (by omega) (by omega) he38) hn10 hr48]; (first | exact groupO_n1 hrp | exact groupO_n2 he50 hrp)) | exact groupK_no hS10 he15 (opT_none fun j h1 h2 => hp j h1 (by omega)))))⟩)))); (obtain ⟨a17, t17, L17, rfl, hS17, hr17⟩ := hq; simp only [List.cons_append, List.nil_append] at hO; subst hO; have hl17 := advT_len hr17)) <;> (refine R_nil ?_))) <;> ((refine thenQ_nrm ?_; (refine W_seq ?_; (refine W_rgn ?_; ((refine Ra rfl (X_mv rfl ?_)) <;> (refine RaG rfl (xNG (hE (by assumption) (Fz.le (by assumption) ZC.le) (by omega)) rfl (pB rfl Pick.nil) (fun r19 Z19 o19 hz19 hq O2 hO => ?_) (fun _ Zp op hzp hq O2 hO => (by obtain ⟨ap, tp, rfl, rfl, hrp⟩ := hq; simp only [List.cons_append, List.nil_append] at hO; subst hO; exact (by (repeat (first | refine thenQ_pan ?_ | refine blockQ_pan ?_)); refine fnG_pan ?_; exact Upd.has (L := [rdB w k vv s b _ _]) (hB rfl Has.nil) ⟨_, _, rfl, rfl, by (first | exact groupR_n hrp | (refine Or.elim he10 (fun e10 => ?_) (fun e10 => groupR_n e10.1); rw [groupR_k e10]; (first | exact groupK_n hrp | (rw [groupK_63 hS10 he15 hr17]; (first | exact groupQ_n1 hrp | exact groupQ_n2 he19 hrp | exact groupQ_n3 he19 hr21 hrp | exact groupQ_n4 he19 hr21 he23 hrp)) | (rw [groupK_op hS10 he15 (by rw [he45]; exact opT_sign (by omega) (by omega) he38) hn10 hr48]; (first | exact groupO_n1 hrp | exact groupO_n2 he50 hrp)) | exact groupK_no hS10 he15 (opT_none fun j h1 h2 => hp j h1 (by omega)))))⟩)))); (obtain ⟨a19, t19, L19, rfl, hS19, hr19⟩ := hq; simp only [List.cons_append, List.nil_append] at hO; subst hO; obtain ⟨hl19, ⟨o19, n19, c19, v19, ks19⟩, rfl, ht19, he19⟩ := hr19)) <;> (refine Ra rfl (X_alloc (fun b4 => ?_))) <;> (refine Rn (xSW rfl rfl rfl rfl ?_)) <;> (refine R_nil ?_))) <;> ((refine thenQ_nrm ?_; (refine W_seq ?_; (refine W_rgn ?_; ((refine Ra rfl (X_mv rfl ?_)) <;> (refine RaG rfl (xNG (take_ok lo hs (by assumption) (by decide)) rfl (pB rfl Pick.nil) (fun r21 Z21 o21 hz21 hq O2 hO => ?_) (fun _ Zp op hzp hq O2 hO => (by obtain ⟨ap, tp, rfl, rfl, hrp⟩ := hq; simp only [List.cons_append, List.nil_append] at hO; subst hO; exact (by (repeat (first | refine thenQ_pan ?_ | refine blockQ_pan ?_)); refine fnG_pan ?_; exact Upd.has (L := [rdB w k vv s b _ _]) (hB rfl Has.nil) ⟨_, _, rfl, rfl, by (first | exact groupR_n hrp | (refine Or.elim he10 (fun e10 => ?_) (fun e10 => groupR_n e10.1); rw [groupR_k e10]; (first | exact groupK_n hrp | (rw [groupK_63 hS10 he15 hr17]; (first | exact groupQ_n1 hrp | exact groupQ_n2 he19 hrp | exact groupQ_n3 he19 hr21 hrp | exact groupQ_n4 he19 hr21 he23 hrp)) | (rw [groupK_op hS10 he15 (by rw [he45]; exact opT_sign (by omega) (by omega) he38) hn10 hr48]; (first | exact groupO_n1 hrp | exact groupO_n2 he50 hrp)) | exact groupK_no hS10 he15 (opT_none fun j h1 h2 => hp j h1 (by omega)))))⟩)))); (obtain ⟨a21, t21, L21, rfl, hS21, hr21⟩ := hq; simp only [List.cons_append, List.nil_append] at hO; subst hO; have hl21 := takeT_len hr21)) <;> (refine R_nil ?_))) <;> ((refine thenQ_nrm ?_; (refine W_seq ?_; (refine W_rgn ?_; ((refine Ra rfl (X_mv rfl ?_)) <;> (refine RaG rfl (xNG (hE (by assumption) (Fz.le (by assumption) ZC.le) (by omega)) rfl (pB rfl Pick.nil) (fun r23 Z23 o23 hz23 hq O2 hO => ?_) (fun _ Zp op hzp hq O2 hO => (by obtain ⟨ap, tp, rfl, rfl, hrp⟩ := hq; simp only [List.cons_append, List.nil_append] at hO; subst hO; exact (by (repeat (first | refine thenQ_pan ?_ | refine blockQ_pan ?_)); refine fnG_pan ?_; exact Upd.has (L := [rdB w k vv s b _ _]) (hB rfl Has.nil) ⟨_, _, rfl, rfl, by (first | exact groupR_n hrp | (refine Or.elim he10 (fun e10 => ?_) (fun e10 => groupR_n e10.1); rw [groupR_k e10]; (first | exact groupK_n hrp | (rw [groupK_63 hS10 he15 hr17]; (first | exact groupQ_n1 hrp | exact groupQ_n2 he19 hrp | exact groupQ_n3 he19 hr21 hrp | exact groupQ_n4 he19 hr21 he23 hrp)) | (rw [groupK_op hS10 he15 (by rw [he45]; exact opT_sign (by omega) (by omega) he38) hn10 hr48]; (first | exact groupO_n1 hrp | exact groupO_n2 he50 hrp)) | exact groupK_no hS10 he15 (opT_none fun j h1 h2 => hp j h1 (by omega)))))⟩)))); (obtain ⟨a23, t23, L23, rfl, hS23, hr23⟩ := hq; simp only [List.cons_append, List.nil_append] at hO; subst hO; obtain ⟨hl23, ⟨o23, n23, c23, v23, ks23⟩, rfl, ht23, he23⟩ := hr23)) <;> (refine Ra rfl (X_alloc (fun b5 => ?_))) <;> (refine Rn (xSW rfl rfl rfl rfl ?_)) <;> (refine R_nil ?_))) <;> ((refine thenQ_nrm ?_; (refine W_seq ?_; (refine W_rgn ?_; ((refine Ra rfl (X_mv rfl ?_)) <;> (refine RaG rfl (xNG (take_ok lo hs (by assumption) (by decide)) rfl (pB rfl Pick.nil) (fun r25 Z25 o25 hz25 hq O2 hO => ?_) (fun _ Zp op hzp hq O2 hO => (by obtain ⟨ap, tp, rfl, rfl, hrp⟩ := hq; simp only [List.cons_append, List.nil_append] at hO; subst hO; exact (by (repeat (first | refine thenQ_pan ?_ | refine blockQ_pan ?_)); refine fnG_pan ?_; exact Upd.has (L := [rdB w k vv s b _ _]) (hB rfl Has.nil) ⟨_, _, rfl, rfl, by (first | exact groupR_n hrp | (refine Or.elim he10 (fun e10 => ?_) (fun e10 => groupR_n e10.1); rw [groupR_k e10]; (first | exact groupK_n hrp | (rw [groupK_63 hS10 he15 hr17]; (first | exact groupQ_n1 hrp | exact groupQ_n2 he19 hrp | exact groupQ_n3 he19 hr21 hrp | exact groupQ_n4 he19 hr21 he23 hrp)) | (rw [groupK_op hS10 he15 (by rw [he45]; exact opT_sign (by omega) (by omega) he38) hn10 hr48]; (first | exact groupO_n1 hrp | exact groupO_n2 he50 hrp)) | exact groupK_no hS10 he15 (opT_none fun j h1 h2 => hp j h1 (by omega)))))⟩)))); (obtain ⟨a25, t25, L25, rfl, hS25, hr25⟩ := hq; simp only [List.cons_append, List.nil_append] at hO; subst hO; have hl25 := takeT_len hr25)) <;> (refine R_nil ?_))) <;> ((refine thenQ_nrm ?_; (refine W_seq ?_; (refine W_rgn ?_; ((refine Ra rfl (X_load (lBA rfl rfl) ?_)) <;> (refine Ra rfl (X_load (lBA rfl rfl) ?_)) <;> (refine Ra rfl (X_load (lBA rfl rfl) ?_)) <;> (refine Ra rfl (X_bsliceC (pCons rfl (pCons rfl (pCons rfl Parts.nil))) rfl rfl rfl (fun v29 => ?_))) <;> (refine Ra rfl (X_buildC (pCons rfl (pCons rfl Parts.nil)) rfl ?_)) <;> (refine Rn (xSW rfl rfl rfl rfl ?_)) <;> (refine R_nil ?_))) <;> ((refine thenQ_nrm ?_; (refine W_ret ?_))))))))))))))))))) | (refine W_skip ?_)))))) <;> (first | refine thenQ_ret ?_ | (refine thenQ_nrm ?_; (refine W_seq ?_; (refine W_seq ?_; (refine W_rgn ?_; ((refine Ra rfl (X_mv rfl ?_)) <;> (refine R_nil ?_))) <;> ((refine thenQ_nrm ?_; (refine W_block ?_; ((
      refine wLoop (fun i : Nat => [(6, .int .i64 (i : Nat))]) (fun _ => [rdB w k vv s b a10 t10, .box b3 [.int .i64 o10, .int .i64 n10, .int .i64 c10, v10], .box b2 [.int .i64 0, .int .i64 0, .int .i64 0, .slice none 0 0]]) (fun i _ => 2 ≤ i ∧ i ≤ 15 ∧ ∀ j : Nat, 2 ≤ j → j < i → signV j = [] ∨ t10 ≠ signV j) (fun i => 15 - i) 2 (by repeat' (first | exact trivial | exact rfl | constructor)) (Upd.done ⟨⟨by omega, by omega, fun j h1 h2 => absurd h1 (by omega)⟩, hB rfl (hB rfl (hB rfl Has.nil))⟩) ?_
      intro i Z1 hz1 hp
      obtain ⟨hi0, hi, hp⟩ := hp) <;> (refine W_seq ?_; (refine W_seq ?_; (refine W_rgn ?_; ((refine Ra rfl (X_mv rfl ?_)) <;> (refine Ra rfl (X_lss rfl rfl (fun _ => ?_) (fun _ => ?_))) <;> (refine R_nil ?_))) <;> ((refine thenQ_nrm ?_; (refine W_cond rfl (fun ht => ?_) (fun ht => ?_) <;> (first | exact absurd ht (by decide) | (refine W_skip ?_) | (refine W_exit ?_)))))) <;> (first | refine thenQ_ext ?_ | (refine thenQ_nrm ?_; (refine W_seq ?_; (refine W_block ?_; (refine W_seq ?_; (refine W_rgn ?_; ((refine Ra rfl (X_mv rfl ?_)) <;> (refine Ra rfl (xP (sign_ok lo _) rfl (fun _ Z36 hz36 hq => ?_)); (subst hq)) <;> (refine Ra rfl (X_mv rfl ?_)) <;> (refine R_nil ?_))) <;> ((refine thenQ_nrm ?_; (refine W_seq ?_; (refine W_rgn ?_; ((refine Ra rfl (X_mv rfl ?_)) <;> (refine Ra rfl (xNeL rfl rfl (fun he38 => ?_) (fun he38 => ?_))) <;> (refine Ra rfl (X_mv rfl ?_)) <;> (first | (refine Rb rfl rfl (X_mv rfl ?_)) | (refine Rc rfl rfl ?_)) <;> (first | (refine Rb rfl rfl (X_nilchk rfl ?_)) | (refine Rc rfl rfl ?_)) <;> (first | (refine Rb rfl rfl (X_faddr rfl ?_)) | (refine Rc rfl rfl ?_)) <;> (first | (refine Rb rfl rfl (X_load (lB rfl rfl) ?_)) | (refine Rc rfl rfl ?_)) <;> (first | (refine Rb rfl rfl (X_mv rfl ?_)) | (refine Rc rfl rfl ?_)) <;> (first | (refine Rb rfl rfl (xEqL rfl rfl (fun he45 => ?_) (fun he45 => ?_)); (all_goals (try (have hn10 : t10 ≠ [] := fun e => he38 (he45 ▸ e))))) | (refine Rc rfl rfl ?_)) <;> (first | (refine Ra rfl (X_pickT rfl rfl ?_)) | (refine Ra rfl (X_pickF rfl rfl ?_))) <;> (refine R_nil ?_))) <;> ((refine thenQ_nrm ?_; (refine W_cond rfl (fun ht => ?_) (fun ht => ?_) <;> (first | exact absurd ht (by decide) | (refine W_seq ?_; (refine W_rgn ?_; ((refine Ra rfl (X_mv rfl ?_)) <;> (refine RaG rfl (xNG (next2_ok lo hs (by assumption) (by first | assumption | (rename_i e9; rw [e9]; decide) | (intro e9; subst e9; simp at *))) rfl (pB rfl Pick.nil) (fun r48 Z48 o48 hz48 hq O2 hO => ?_) (fun _ Zp op hzp hq O2 hO => (by obtain ⟨ap, tp, rfl, rfl, hrp⟩ := hq; simp only [List.cons_append, List.nil_append] at hO; subst hO; exact (by (repeat (first | refine thenQ_pan ?_ | refine blockQ_pan ?_)); refine fnG_pan ?_; exact Upd.has (L := [rdB w k vv s b _ _]) (hB rfl Has.nil) ⟨_, _, rfl, rfl, by (first | exact groupR_n hrp | (refine Or.elim he10 (fun e10 => ?_) (fun e10 => groupR_n e10.1); rw [groupR_k e10]; (first | exact groupK_n hrp | (rw [groupK_63 hS10 he15 hr17]; (first | exact groupQ_n1 hrp | exact groupQ_n2 he19 hrp | exact groupQ_n3 he19 hr21 hrp | exact groupQ_n4 he19 hr21 he23 hrp)) | (rw [groupK_op hS10 he15 (by rw [he45]; exact opT_sign (by omega) (by omega) he38) hn10 hr48]; (first | exact groupO_n1 hrp | exact groupO_n2 he50 hrp)) | exact groupK_no hS10 he15 (opT_none fun j h1 h2 => hp j h1 (by omega)))))⟩)))); (obtain ⟨a48, t48, L48, rfl, hS48, hr48⟩ := hq; simp only [List.cons_append, List.nil_append] at hO; subst hO; have hl48 := advT_len hr48)) <;> (refine R_nil ?_))) <;> ((refine thenQ_nrm ?_; (refine W_seq ?_; (refine W_rgn ?_; ((refine Ra rfl (X_mv rfl ?_)) <;> (refine RaG rfl (xNG (hE (by assumption) (Fz.le (by assumption) ZC.le) (by omega)) rfl (pB rfl Pick.nil) (fun r50 Z50 o50 hz50 hq O2 hO => ?_) (fun _ Zp op hzp hq O2 hO => (by obtain ⟨ap, tp, rfl, rfl, hrp⟩ := hq; simp only [List.cons_append, List.nil_append] at hO; subst hO; exact (by (repeat (first | refine thenQ_pan ?_ | refine blockQ_pan ?_)); refine fnG_pan ?_; exact Upd.has (L := [rdB w k vv s b _ _]) (hB rfl Has.nil) ⟨_, _, rfl, rfl, by (first | exact groupR_n hrp | (refine Or.elim he10 (fun e10 => ?_) (fun e10 => groupR_n e10.1); rw [groupR_k e10]; (first | exact groupK_n hrp | (rw [groupK_63 hS10 he15 hr17]; (first | exact groupQ_n1 hrp | exact groupQ_n2 he19 hrp | exact groupQ_n3 he19 hr21 hrp | exact groupQ_n4 he19 hr21 he23 hrp)) | (rw [groupK_op hS10 he15 (by rw [he45]; exact opT_sign (by omega) (by omega) he38) hn10 hr48]; (first | exact groupO_n1 hrp | exact groupO_n2 he50 hrp)) | exact groupK_no hS10 he15 (opT_none fun j h1 h2 => hp j h1 (by omega)))))⟩)))); (obtain ⟨a50, t50, L50, rfl, hS50, hr50⟩ := hq; simp only [List.cons_append, List.nil_append] at hO; subst hO; obtain ⟨hl50, ⟨o50, n50, c50, v50, ks50⟩, rfl, ht50, he50⟩ := hr50)) <;> (refine Ra rfl (X_alloc (fun b8 => ?_))) <;> (refine Rn (xSW rfl rfl rfl rfl ?_)) <;> (refine R_nil ?_))) <;> ((refine thenQ_nrm ?_; (refine W_seq ?_; (refine W_rgn ?_; ((refine Ra rfl (X_mv rfl ?_)) <;> (refine RaG rfl (xNG (take_ok lo hs (by assumption) (by decide)) rfl (pB rfl Pick.nil) (fun r52 Z52 o52 hz52 hq O2 hO => ?_) (fun _ Zp op hzp hq O2 hO => (by obtain ⟨ap, tp, rfl, rfl, hrp⟩ := hq; simp only [List.cons_append, List.nil_append] at hO; subst hO; exact (by (repeat (first | refine thenQ_pan ?_ | refine blockQ_pan ?_)); refine fnG_pan ?_; exact Upd.has (L := [rdB w k vv s b _ _]) (hB rfl Has.nil) ⟨_, _, rfl, rfl, by (first | exact groupR_n hrp | (refine Or.elim he10 (fun e10 => ?_) (fun e10 => groupR_n e10.1); rw [groupR_k e10]; (first | exact groupK_n hrp | (rw [groupK_63 hS10 he15 hr17]; (first | exact groupQ_n1 hrp | exact groupQ_n2 he19 hrp | exact groupQ_n3 he19 hr21 hrp | exact groupQ_n4 he19 hr21 he23 hrp)) | (rw [groupK_op hS10 he15 (by rw [he45]; exact opT_sign (by omega) (by omega) he38) hn10 hr48]; (first | exact groupO_n1 hrp | exact groupO_n2 he50 hrp)) | exact groupK_no hS10 he15 (opT_none fun j h1 h2 => hp j h1 (by omega)))))⟩)))); (obtain ⟨a52, t52, L52, rfl, hS52, hr52⟩ := hq; simp only [List.cons_append, List.nil_append] at hO; subst hO; have hl52 := takeT_len hr52)) <;> (refine R_nil ?_))) <;> ((refine thenQ_nrm ?_; (refine W_seq ?_; (refine W_rgn ?_; ((refine Ra rfl (X_mv rfl ?_)) <;> (refine Ra rfl (X_load (lBA rfl rfl) ?_)) <;> (refine Ra rfl (X_load (lBA rfl rfl) ?_)) <;> (refine Ra rfl (X_bsliceC (pCons rfl (pCons rfl Parts.nil)) rfl rfl rfl (fun v56 => ?_))) <;> (refine Ra rfl (X_buildC (pCons rfl (pCons rfl Parts.nil)) rfl ?_)) <;> (refine Rn (xSW rfl rfl rfl rfl ?_)) <;> (refine R_nil ?_))) <;> ((refine thenQ_nrm ?_; (refine W_ret ?_))))))))))))) | (refine W_skip ?_))))))))) <;> (first | refine blockQ_nrm ?_ | refine blockQ_ret ?_)) <;> (first | refine thenQ_ret ?_ | (refine thenQ_nrm ?_; (refine W_rgn ?_; ((refine Ra rfl (X_mv rfl ?_)) <;> (refine Ra rfl (X_addI rfl rfl (by omega) (by omega) ?_)) <;> (refine Ra rfl (X_mv rfl ?_)) <;> (refine R_nil ?_))))))))) <;> (first | refine thenQ_ret ?_ | refine thenQ_ext ?_ | (refine thenQ_nrm ?_; (
        refine Upd.done ⟨i + 1, by omega, ⟨by omega, by omega, fun j h1 h2 => ?_⟩, (by repeat' (first | exact trivial | exact rfl | constructor)), hB rfl (hB rfl (hB rfl Has.nil))⟩
        rcases Nat.lt_or_ge j i with h | h
        · exact hp j h1 h
        · obtain rfl : j = i := by omega
          first
            | exact .inl he38
            | exact .inr he45)))) <;> (first | refine blockQ_ret ?_ | refine blockQ_ext ?_))))) <;> (first | refine thenQ_ret ?_ | (refine thenQ_nrm ?_; (refine W_rgn ?_; ((refine Ra rfl (X_buildC (pCons rfl Parts.nil) rfl ?_)) <;> (refine Ra rfl (X_mkif rfl ?_)) <;> (refine RnG (xPan rfl (by (repeat (first | refine thenQ_pan ?_ | refine blockQ_pan ?_)); refine fnG_pan ?_; exact Upd.has (L := [rdB w k vv s b _ _]) (hB rfl Has.nil) ⟨_, _, rfl, rfl, by (first | exact groupR_n hrp | (refine Or.elim he10 (fun e10 => ?_) (fun e10 => groupR_n e10.1); rw [groupR_k e10]; (first | exact groupK_n hrp | (rw [groupK_63 hS10 he15 hr17]; (first | exact groupQ_n1 hrp | exact groupQ_n2 he19 hrp | exact groupQ_n3 he19 hr21 hrp | exact groupQ_n4 he19 hr21 he23 hrp)) | (rw [groupK_op hS10 he15 (by rw [he45]; exact opT_sign (by omega) (by omega) he38) hn10 hr48]; (first | exact groupO_n1 hrp | exact groupO_n2 he50 hrp)) | exact groupK_no hS10 he15 (opT_none fun j h1 h2 => hp j h1 (by omega)))))⟩))) <;> (refine R_nil ?_)))))))))))))))
  <;> (refine fnG_ret (rA rfl rfl Res.nil) ?_)
  all_goals
    first
      | (refine uA v29 fun Za hza hfa => Upd.has (L := [rdB w k vv s b _ _]) (hB rfl Has.nil) ⟨_, _, _, rfl, by assumption, ?_, .mk 15 0 0 v29 [.mk o10 n10 c10 v10 ks10, .mk o19 n19 c19 v19 ks19, .mk o23 n23 c23 v23 ks23], rfl, Tr_three hfa ht10 ZC.le ht19 ZC.le ht23 ZC.le, .inl ?_⟩
         · omega
         · have e10 := not_stuck hS10 (by rw [he15]; decide) he10
           rw [groupR_k e10, groupK_63 hS10 he15 hr17, groupQ_ok he19 hr21 he23 hr25]; rfl)
      | (refine uA v56 fun Za hza hfa => Upd.has (L := [rdB w k vv s b _ _]) (hB rfl Has.nil) ⟨_, _, _, rfl, by assumption, ?_, .mk i 0 0 v56 [.mk o10 n10 c10 v10 ks10, .mk o50 n50 c50 v50 ks50], rfl, Tr_two hfa ht10 ZC.le ht50 ZC.le, .inl ?_⟩
         · omega
         · have e10 := not_stuck hS10 (by rw [he45]; exact sign_64 _) he10
           rw [groupR_k e10, groupK_op hS10 he15 (by rw [he45]; exact opT_sign (by omega) (by omega) he38) hn10 hr48, groupO_ok he50 hr52]; rfl)
end Go.Proofs.Ytlidnionbofkaaa.Hm.V
