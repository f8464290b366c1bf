import Derived.Test.YtlidnionbofkaaaHF
import Derived.Test.YtlidnionbofkaaaA6
import Derived.Test.YtlidnionbofkaaaVR1
import Derived.Test.YtlidnionbofkaaaVE7
namespace Go.Proofs.Ytlidnionbofkaaa.Hm.V
open Go
set_option linter.all false
set_option maxRecDepth 100000
attribute [local irreducible] X XG S R D W Call CallG Upd Rds Rck Sees Res Cel CallP fnQ fnG
theorem dropG {α : Type} [Inhabited α] {l : List α} {i : Nat} (h : i < l.length) : l.drop i = l.getD i default :: l.drop (i + 1) := by
  rw [getD_eq h, ← List.drop_eq_getElem_cons h]
def tksP (s : List UInt8) (r : Value) (Z : Vw) : Prop := ∃ v ok, r = .tuple ⟨[v, .bool ok]⟩ ∧ ((ok = true ∧ Fz Z 2 v ((lexL s).map encT) ∧ [] ∉ lexL s) ∨ (ok = false ∧ [] ∈ lexL s))
theorem take_ne {s : List UInt8} {i : Nat} (hi : i < s.length) (h : tokN (s.drop i) ≠ 0) : (s.drop i).take (tokN (s.drop i)) ≠ [] := by
  obtain ⟨r, e⟩ := take_hd hi h
  rw [e]; simp
theorem take_len {s : List UInt8} {i : Nat} (hi : i ≤ s.length) : ((s.drop i).take (tokN (s.drop i))).length = tokN (s.drop i) := by
  have := tokA_le hi
  rw [List.length_take, List.length_drop]; omega
theorem pkK_0 {L : List Tok} (h : pkK L = 0) : ∃ t r, L = t :: r ∧ isNum t = true ∧ pkS L = t := by
  cases L with
  | nil => cases h
  | cons t r =>
    refine ⟨t, r, rfl, ?_, rfl⟩
    replace h : kindT t = 0 := h
    unfold kindT at h
    split at h
    · assumption
    · split at h <;> cases h
theorem pkK_1 {L : List Tok} (h : pkK L = 1) : ∃ t r, L = t :: r ∧ isNum t ≠ true ∧ isWrd t = true ∧ pkS L = t := by
  cases L with
  | nil => cases h
  | cons t r =>
    refine ⟨t, r, rfl, ?_⟩
    replace h : kindT t = 1 := h
    unfold kindT at h
    split at h
    · cases h
    · split at h
      · exact ⟨by assumption, by assumption, rfl⟩
      · cases h
theorem pkK_2 {L : List Tok} (h : pkK L = 2) : ∃ t r, L = t :: r ∧ isNum t ≠ true ∧ isWrd t ≠ true ∧ pkS L = t := by
  cases L with
  | nil => cases h
  | cons t r =>
    refine ⟨t, r, rfl, ?_⟩
    replace h : kindT t = 2 := h
    unfold kindT at h
    split at h
    · cases h
    · split at h
      · cases h
      · exact ⟨by assumption, by assumption, rfl⟩
theorem pk_is {L : List Tok} {m : Tok} (h1 : isNum m = false) (h2 : isWrd m = false) : ((pkK L = 2 ∨ pkK L = 1) ∧ pkS L = m) ↔ L.head? = some m := by
  cases L with
  | nil =>
    constructor
    · rintro ⟨h | h, _⟩ <;> cases h
    · intro h; cases h
  | cons t r =>
    simp only [List.head?_cons, Option.some.injEq]
    constructor
    · exact fun h => h.2
    · intro h
      have h : t = m := h
      subst h
      refine ⟨.inl ?_, rfl⟩
      simp [pkK, kindT, h1, h2]
def numF (n : Int) (c : UInt8) : Int := 10 * n + dgV c
def numR (t : Tok) : Int := if 9 < t.length then -1 else t.foldl numF 0
theorem foldF_le : ∀ (t : Tok) (n : Int) (b : Int), 0 ≤ n → n + 30 ≤ b → 30 ≤ b → 0 ≤ t.foldl numF n ∧ t.foldl numF n + 30 ≤ b * (10 : Int) ^ t.length
  | [], n, b, h0, h1, h2 => by simp; omega
  | c :: t, n, b, h0, h1, h2 => by
    have := dgV_le c
    rw [List.foldl_cons, List.length_cons, Int.pow_succ, Int.mul_comm (10 ^ t.length) 10, ← Int.mul_assoc]
    exact foldF_le t _ _ (by unfold numF; omega) (by unfold numF; omega) (by omega)
theorem foldF_9 {t : Tok} (h : t.length ≤ 9) : 0 ≤ t.foldl numF 0 ∧ t.foldl numF 0 ≤ 30000000000 := by
  have h1 := foldF_le t 0 30 (by omega) (by omega) (by omega)
  have h2 : (10 : Int) ^ t.length ≤ 10 ^ 9 := by
    have : (10 : Nat) ^ t.length ≤ 10 ^ 9 := Nat.pow_le_pow_right (by omega) h
    exact_mod_cast this
  have : (10 : Int) ^ 9 = 1000000000 := by decide
  refine ⟨h1.1, ?_⟩
  have h3 := h1.2
  rw [this] at h2
  omega
theorem foldF_take {t : Tok} {i : Nat} (h : i < t.length) : (t.take (i + 1)).foldl numF 0 = 10 * (t.take i).foldl numF 0 + dgV (t.getD i default) := by
  rw [take_snoc h, List.foldl_append]; rfl
theorem sign_nop {i : Nat} (h0 : 2 ≤ i) (h1 : i < 15) (h : ¬ IsOp i) : signV i = [] := by
  obtain ⟨j, rfl⟩ : ∃ j : Fin 13, i = j.val + 2 := ⟨⟨i - 2, by omega⟩, by simp; omega⟩
  revert h
  unfold IsOp
  have key : ∀ j : Fin 13, j.val + 2 = 12 → signV ((j.val + 2 : Nat) : Int) = [] := by decide
  intro h
  exact key j (by omega)
theorem sign_op {i : Nat} (h0 : 2 ≤ i) (h1 : i < 15) (h : IsOp i) : signV i ≠ [] := by
  obtain ⟨j, rfl⟩ : ∃ j : Fin 13, i = j.val + 2 := ⟨⟨i - 2, by omega⟩, by simp; omega⟩
  revert h
  unfold IsOp
  have key : ∀ j : Fin 13, j.val + 2 ≠ 12 → signV ((j.val + 2 : Nat) : Int) ≠ [] := by decide
  intro h
  exact key j (by omega)
set_option maxHeartbeats 4000000 in
theorem Marks_ok (lo : Nat) {Z : Vw} : Call F lo 35 [] Z [] fun r _ O' => O' = [.arr r 1 20 (marksL.map encS1)] := by
  refine Fn (fn := c35) rfl rfl rfl ?_
  (refine W_seq ?_; (refine W_rgn ?_; ((refine Ra rfl (X_mv rfl ?_)) <;> (refine R_nil ?_))) <;> ((refine thenQ_nrm ?_; (refine W_seq ?_; (refine W_rgn ?_; ((refine Ra rfl (X_bsliceC (pCons rfl (pCons rfl (pCons rfl (pCons rfl (pCons rfl (pCons rfl (pCons rfl (pCons rfl (pCons rfl (pCons rfl (pCons rfl (pCons rfl (pCons rfl (pCons rfl (pCons rfl (pCons rfl (pCons rfl (pCons rfl (pCons rfl (pCons rfl Parts.nil)))))))))))))))))))) rfl rfl rfl (fun v1 => ?_))) <;> (refine Ra rfl (X_mv rfl ?_)) <;> (refine R_nil ?_))) <;> ((refine thenQ_nrm ?_; (refine W_ret ?_)))))))
  <;> (refine fn_ret (Res.tmp rfl Res.nil) ?_)
  all_goals exact Upd.has (L := [.arr v1 1 20 (marksL.map encS1)]) (hR rfl Has.nil) rfl
set_option maxHeartbeats 4000000 in
theorem Tokens_ok (lo : Nat) {s : List UInt8} {vm : Value} (hs : s.length < 1000000) {Z : Vw} (hmk : Fz Z 1 vm (marksL.map encS1)) : CallP F lo 34 [.string ⟨⟨s⟩⟩, vm, .bool false] Z fun r Z' => tksP s r Z' := by
  refine FnP (fn := c34) rfl rfl rfl ?_
  (refine W_seq ?_; (refine W_rgn ?_; ((refine Ra rfl (X_mv rfl ?_)) <;> (refine Ra rfl (X_mv rfl ?_)) <;> (refine R_nil ?_))) <;> ((refine thenQ_nrm ?_; (refine W_seq ?_; (refine W_rgn ?_; ((refine Ra rfl (X_mv rfl ?_)) <;> (refine R_nil ?_))) <;> ((refine thenQ_nrm ?_; (refine W_seq ?_; (refine W_seq ?_; (refine W_rgn ?_; ((refine Ra rfl (X_mv rfl ?_)) <;> (refine R_nil ?_))) <;> ((refine thenQ_nrm ?_; (refine W_block ?_; ((
      refine wLoop (fun (p : Nat × Value × List Tok) => match p with | (i, vl, acc) => [(9, .int .i64 (i : Nat)), (8, vl)]) (fun p => match p with | (i, vl, acc) => [.gro vl 2 (acc.map encT)]) (fun p _ => match p with | (i, vl, acc) => i ≤ s.length ∧ acc.length ≤ i ∧ lexL s = acc ++ lexL (s.drop i) ∧ [] ∉ acc) (fun p => match p with | (i, _, _) => s.length - i) (0, .slice none 0 0, []) (by repeat' (first | exact trivial | exact rfl | constructor)) (Upd.gro0 (e := 2) (by decide) (Upd.done ⟨⟨Nat.zero_le _, Nat.le_refl _, by rw [List.drop_zero]; rfl, by simp⟩, hG rfl Has.nil⟩)) ?_
      rintro ⟨i, vl, acc⟩ Z1 hz1 hp
      obtain ⟨hi, hal, hp, hna⟩ : i ≤ s.length ∧ acc.length ≤ i ∧ lexL s = acc ++ lexL (s.drop i) ∧ [] ∉ acc := hp
      have hle := tokA_le hi
      have htl := take_len hi) <;> (refine W_seq ?_; (refine W_seq ?_; (refine W_rgn ?_; ((refine Ra rfl (X_mv rfl ?_)) <;> (refine Ra rfl (X_mv rfl ?_)) <;> (refine Ra rfl (xLenL rfl ?_)) <;> (refine Ra rfl (X_lss rfl rfl (fun _ => ?_) (fun _ => ?_))) <;> (refine R_nil ?_))) <;> ((refine thenQ_nrm ?_; (refine W_cond rfl (fun ht => ?_) (fun ht => ?_) <;> (first | exact absurd ht (by decide) | (refine W_skip ?_) | (refine W_exit ?_)))))) <;> (first | refine thenQ_ext ?_ | (refine thenQ_nrm ?_; (refine W_block ?_; (refine W_seq ?_; (refine W_seq ?_; (refine W_rgn ?_; ((refine Ra rfl (X_mv rfl ?_)) <;> (refine Ra rfl (X_mv rfl ?_)) <;> (refine Ra rfl (xIdL rfl rfl (by omega) (by omega) ?_)) <;> (refine Ra rfl (X_eql rfl rfl (fun he19 => ?_) (fun he19 => ?_))) <;> (refine Ra rfl (X_mv rfl ?_)) <;> (first | (refine Rb rfl rfl (X_mv rfl ?_)) | (refine Rc rfl rfl ?_)) <;> (first | (refine Rb rfl rfl (X_mv rfl ?_)) | (refine Rc rfl rfl ?_)) <;> (first | (refine Rc rfl rfl ?_) | (refine Rd rfl rfl ?_)) <;> (first | (refine Rc rfl rfl ?_) | (refine Rd rfl rfl ?_)) <;> (first | (refine Rc rfl rfl ?_) | (refine Rd rfl rfl ?_)) <;> (first | (refine Rc rfl rfl ?_) | (refine Rd rfl rfl ?_)) <;> (first | (refine Rb rfl rfl (X_pickF rfl rfl ?_)) | (refine Rc rfl rfl ?_)) <;> (first | (refine Ra rfl (X_pickT rfl rfl ?_)) | (refine Ra rfl (X_pickF rfl rfl ?_))) <;> (refine R_nil ?_))) <;> ((refine thenQ_nrm ?_; (refine W_cond rfl (fun ht => ?_) (fun ht => ?_) <;> (first | exact absurd ht (by decide) | (refine W_seq ?_; (refine W_rgn ?_; ((refine Ra rfl (X_mv rfl ?_)) <;> (refine Ra rfl (X_addI rfl rfl (by omega) (by omega) ?_)) <;> (refine Ra rfl (X_mv rfl ?_)) <;> (refine R_nil ?_))) <;> ((refine thenQ_nrm ?_; (refine W_exit ?_)))) | (refine W_skip ?_)))))) <;> (first | refine thenQ_ext ?_ | (refine thenQ_nrm ?_; (refine W_seq ?_; (refine W_rgn ?_; ((refine Ra rfl (X_mv rfl ?_)) <;> (refine Ra rfl (X_mv rfl ?_)) <;> (refine Ra rfl (X_mv rfl ?_)) <;> (refine Ra rfl (xP (rnext_ok lo (i := i) hs (by omega) (Fz.le hmk ZC.le)) rfl (fun _ Z35 hz35 hq => ?_)); (rcases hq with ⟨hn35, u35, rfl⟩ | ⟨hn35, rfl⟩ <;> simp only [encT])) <;> (refine Ra rfl (X_mv rfl ?_)) <;> (refine Ra rfl (X_extract rfl rfl ?_)) <;> (refine Ra rfl (X_extract rfl rfl ?_)) <;> (refine Ra rfl (X_alloc (fun b10 => ?_))) <;> (refine Rn (xSW rfl rfl rfl rfl ?_)) <;> (refine Ra rfl (X_mv rfl ?_)) <;> (refine R_nil ?_))) <;> ((refine thenQ_nrm ?_; (refine W_seq ?_; (refine W_seq ?_; (refine W_rgn ?_; ((refine Ra rfl (X_mv rfl ?_)) <;> (refine Ra rfl (X_not rfl ?_)) <;> (refine R_nil ?_))) <;> ((refine thenQ_nrm ?_; (refine W_cond rfl (fun ht => ?_) (fun ht => ?_) <;> (first | exact absurd ht (by decide) | (refine W_seq ?_; (refine W_rgn ?_; ((refine Ra rfl (X_mv rfl ?_)) <;> (refine Ra rfl (X_mv rfl ?_)) <;> (refine R_nil ?_))) <;> ((refine thenQ_nrm ?_; (refine W_ret ?_)))) | (refine W_skip ?_)))))) <;> (first | refine thenQ_ret ?_ | (refine thenQ_nrm ?_; (refine W_seq ?_; (refine W_rgn ?_; ((refine Ra rfl (X_mv rfl ?_)) <;> (refine Ra rfl (X_load (lBA rfl rfl) ?_)) <;> (refine Ra rfl (X_bsliceC (pCons rfl Parts.nil) rfl rfl rfl (fun v42 => ?_))) <;> (refine Ra rfl (xApGm (fe := encT) ((s.drop i).take (tokN (s.drop i))) rfl rfl rfl (by omega) (fun v43 => ?_))) <;> (refine Ra rfl (X_mv rfl ?_)) <;> (refine R_nil ?_))) <;> ((refine thenQ_nrm ?_; (refine W_rgn ?_; ((refine Ra rfl (X_mv rfl ?_)) <;> (refine Ra rfl (X_faddr rfl ?_)) <;> (refine Ra rfl (X_load (lB rfl rfl) ?_)) <;> (refine Ra rfl (xLenL rfl ?_)) <;> (refine Ra rfl (X_addI rfl rfl (by omega) (by omega) ?_)) <;> (refine Ra rfl (X_mv rfl ?_)) <;> (refine R_nil ?_))))))))))))))) <;> (first | refine blockQ_nrm ?_ | refine blockQ_ret ?_ | refine blockQ_ext ?_))))) <;> (first | refine thenQ_ret ?_ | refine thenQ_ext ?_ | (refine thenQ_nrm ?_; (
        first
          | (refine Upd.done ⟨(i + 1, vl, acc), ?_, ⟨?_, ?_, ?_, hna⟩, (by repeat' (first | exact trivial | exact rfl | constructor)), hG rfl Has.nil⟩
             · show s.length - (i + 1) < s.length - i
               omega
             · show i + 1 ≤ s.length
               omega
             · show acc.length ≤ i + 1
               omega
             · rw [hp, lexA_sp (by omega) (by omega)])
          | (refine Upd.done ⟨(i + tokN (s.drop i), v43, acc ++ [(s.drop i).take (tokN (s.drop i))]), ?_, ⟨?_, ?_, ?_, ?_⟩, ?_, hG rfl Has.nil⟩
             · show s.length - (i + tokN (s.drop i)) < s.length - i
               omega
             · show i + tokN (s.drop i) ≤ s.length
               omega
             · show (acc ++ [_]).length ≤ i + tokN (s.drop i)
               rw [List.length_append, List.length_singleton]; omega
             · rw [hp, lexA_tok (by omega) (by omega) (by omega), List.append_assoc]; rfl
             · rw [List.mem_append]
               rintro (h | h)
               · exact hna h
               · exact take_ne (by omega) (by omega) (List.mem_singleton.1 h).symm
             · simp only [htl]
               exact (by repeat' (first | exact trivial | exact rfl | constructor))))))) <;> (first | refine blockQ_ret ?_ | refine blockQ_ext ?_))))) <;> (first | refine thenQ_ret ?_ | (refine thenQ_nrm ?_; (refine W_seq ?_; (refine W_rgn ?_; ((refine Ra rfl (X_mv rfl ?_)) <;> (refine Ra rfl (X_mv rfl ?_)) <;> (refine Ra rfl (X_mv rfl ?_)) <;> (refine R_nil ?_))) <;> ((refine thenQ_nrm ?_; (refine W_ret ?_)))))))))))))
  <;> (refine fn_ret (Res.tmp rfl (Res.tmp rfl Res.nil)) ?_)
  all_goals
    first
      | (have hi9 : i = s.length := by omega
         rw [lexA_end (by omega), List.append_nil] at hp
         dsimp only [tupled]
         refine uG vl fun Za hza hfa => Upd.nil ⟨rfl, vl, true, rfl, .inl ⟨rfl, by rw [hp]; exact hfa, by rw [hp]; exact hna⟩⟩)
      | (refine Upd.nil ⟨rfl, _, false, rfl, .inr ⟨rfl, ?_⟩⟩
         rw [hp, lexA_bad (by omega) (by omega) (by assumption)]
         simp)
set_option maxHeartbeats 4000000 in
theorem Peek_ok (lo : Nat) {Z : Vw} {v : Value} {T : List Tok} (j : Int) {i : Nat} [tn : TN j i] [hl : FzL Z 2 v (T.map encT)] (h0 : 0 ≤ j) (hlen : T.length < 9223372036854775808) : CallP F lo 61 [v, .int .i64 j] Z fun r _ => r = .agg ⟨[.int .i64 (pkK (T.drop i)), .string ⟨⟨pkS (T.drop i)⟩⟩]⟩ := by
  have hl := hl.out
  obtain rfl := tn.out
  have hml : (T.map encT).length = T.length := List.length_map _
  refine FnP (fn := c61) rfl rfl rfl ?_
  (refine W_seq ?_; (refine W_rgn ?_; ((refine Ra rfl (X_alloc (fun b4 => ?_))) <;> (refine R_nil ?_))) <;> ((refine thenQ_nrm ?_; (refine W_seq ?_; (refine W_seq ?_; (refine W_rgn ?_; ((refine Ra rfl (X_mv rfl ?_)) <;> (refine Ra rfl (X_lss rfl rfl (fun _ => ?_) (fun _ => ?_))) <;> (refine Ra rfl (X_mv rfl ?_)) <;> (first | (refine Rb rfl rfl (X_mv rfl ?_)) | (refine Rc rfl rfl ?_)) <;> (first | (refine Rb rfl rfl (X_mv rfl ?_)) | (refine Rc rfl rfl ?_)) <;> (first | (refine Rb rfl rfl (xLen rfl ?_)) | (refine Rc rfl rfl ?_)) <;> (first | (refine Rb rfl rfl (X_geq rfl rfl (fun _ => ?_) (fun _ => ?_))) | (refine Rc rfl rfl ?_)) <;> (first | (refine Ra rfl (X_pickT rfl rfl ?_)) | (refine Ra rfl (X_pickF rfl rfl ?_))) <;> (refine R_nil ?_))) <;> ((refine thenQ_nrm ?_; (refine W_cond rfl (fun ht => ?_) (fun ht => ?_) <;> (first | exact absurd ht (by decide) | (refine W_seq ?_; (refine W_rgn ?_; ((refine Ra rfl (X_buildC (pCons rfl Parts.nil) rfl ?_)) <;> (refine Rn (xSW rfl rfl rfl rfl ?_)) <;> (refine R_nil ?_))) <;> ((refine thenQ_nrm ?_; (refine W_ret ?_)))) | (refine W_skip ?_)))))) <;> (first | refine thenQ_ret ?_ | (refine thenQ_nrm ?_; (refine W_seq ?_; (refine W_rgn ?_; ((refine Ra rfl (X_mv rfl ?_)) <;> (refine Ra rfl (X_mv rfl ?_)) <;> (refine Ra rfl (xIa rfl rfl (by omega) (by omega) ?_)) <;> (refine Ra rfl (X_load (lEA rfl (by omega)) ?_)) <;> (refine Rn (xSW rfl rfl rfl rfl ?_)) <;> (refine R_nil ?_))) <;> ((refine thenQ_nrm ?_; (refine W_ret ?_))))))))))
  <;> (refine fnP_ret (rA rfl rfl Res.nil) ?_)
  all_goals
    first
      | (exfalso; omega)
      | (have e : T.drop j.toNat = [] := List.drop_of_length_le (by omega)
         rw [e]; rfl)
      | (have e := dropG (l := T) (i := j.toNat) (by omega)
         rw [e]; rfl)
set_option maxHeartbeats 4000000 in
theorem TIs_ok (lo : Nat) {Z : Vw} (kd : Int) (u m : Tok) : CallP F lo 65 [.agg ⟨[.int .i64 kd, .string ⟨⟨u⟩⟩]⟩, .string ⟨⟨m⟩⟩] Z fun r _ => ∃ b, r = .bool b ∧ (b = true ↔ ((kd = 2 ∨ kd = 1) ∧ u = m)) := by
  refine FnP (fn := c65) rfl rfl rfl ?_
  (refine W_seq ?_; (refine W_rgn ?_; ((refine Ra rfl (xBox rfl (fun b2 => ?_))) <;> (refine Ra rfl (X_mv rfl ?_)) <;> (refine R_nil ?_))) <;> ((refine thenQ_nrm ?_; (refine W_seq ?_; (refine W_rgn ?_; ((refine Ra rfl (X_faddr rfl ?_)) <;> (refine Ra rfl (X_load (lB rfl rfl) ?_)) <;> (refine Ra rfl (X_eql rfl rfl (fun _ => ?_) (fun _ => ?_))) <;> (refine Ra rfl (X_mv rfl ?_)) <;> (first | (refine Rb rfl rfl (X_faddr rfl ?_)) | (refine Rc rfl rfl ?_)) <;> (first | (refine Rb rfl rfl (X_load (lB rfl rfl) ?_)) | (refine Rc rfl rfl ?_)) <;> (first | (refine Rb rfl rfl (X_eql rfl rfl (fun _ => ?_) (fun _ => ?_))) | (refine Rc rfl rfl ?_)) <;> (first | (refine Ra rfl (X_pickT rfl rfl ?_)) | (refine Ra rfl (X_pickF rfl rfl ?_))) <;> (refine Ra rfl (X_mv rfl ?_)) <;> (first | (refine Rb rfl rfl (X_faddr rfl ?_)) | (refine Rc rfl rfl ?_)) <;> (first | (refine Rb rfl rfl (X_load (lB rfl rfl) ?_)) | (refine Rc rfl rfl ?_)) <;> (first | (refine Rb rfl rfl (X_mv rfl ?_)) | (refine Rc rfl rfl ?_)) <;> (first | (refine Rb rfl rfl (xEqL rfl rfl (fun _ => ?_) (fun _ => ?_))) | (refine Rc rfl rfl ?_)) <;> (first | (refine Ra rfl (X_pickT rfl rfl ?_)) | (refine Ra rfl (X_pickF rfl rfl ?_))) <;> (refine Ra rfl (X_mv rfl ?_)) <;> (refine R_nil ?_))) <;> ((refine thenQ_nrm ?_; (refine W_ret ?_)))))))
  <;> (refine fnP_ret (Res.tmp rfl Res.nil) ?_)
  all_goals
    refine ⟨_, rfl, ?_⟩
    simp only [Bool.false_eq_true, false_iff, true_iff]
    first
      | exact ⟨by omega, by assumption⟩
      | (rintro ⟨h1, h2⟩
         first
           | omega
           | exact absurd h2 (by assumption))
theorem TIsP_ok (lo : Nat) {Z : Vw} (L : List Tok) (m : Tok) (h1 : isNum m = false) (h2 : isWrd m = false) : CallP F lo 65 [.agg ⟨[.int .i64 (pkK L), .string ⟨⟨pkS L⟩⟩]⟩, .string ⟨⟨m⟩⟩] Z fun r _ => ∃ b, r = .bool b ∧ (b = true ↔ L.head? = some m) :=
  (TIs_ok lo (pkK L) (pkS L) m).mono fun r Z' hz q => by
    obtain ⟨b, e, h⟩ := q
    exact ⟨b, e, h.trans (pk_is h1 h2)⟩
set_option maxHeartbeats 4000000 in
theorem TValue_ok (lo : Nat) {Z : Vw} (kd : Int) (u : Tok) (hul : u.length < 1000000) : CallP F lo 63 [.agg ⟨[.int .i64 kd, .string ⟨⟨u⟩⟩]⟩] Z fun r _ => r = .int .i64 (numR u) := by
  refine FnP (fn := c63) rfl rfl rfl ?_
  (refine W_seq ?_; (refine W_rgn ?_; ((refine Ra rfl (xBox rfl (fun b1 => ?_))) <;> (refine Ra rfl (X_mv rfl ?_)) <;> (refine R_nil ?_))) <;> ((refine thenQ_nrm ?_; (refine W_seq ?_; (refine W_seq ?_; (refine W_rgn ?_; ((refine Ra rfl (X_faddr rfl ?_)) <;> (refine Ra rfl (X_load (lB rfl rfl) ?_)) <;> (refine Ra rfl (xLenL rfl ?_)) <;> (refine Ra rfl (X_gtr rfl rfl (fun _ => ?_) (fun _ => ?_))) <;> (refine R_nil ?_))) <;> ((refine thenQ_nrm ?_; (refine W_cond rfl (fun ht => ?_) (fun ht => ?_) <;> (first | exact absurd ht (by decide) | (refine W_seq ?_; (refine W_rgn ?_; ((refine Ra rfl (X_mv rfl ?_)) <;> (refine R_nil ?_))) <;> ((refine thenQ_nrm ?_; (refine W_ret ?_)))) | (refine W_skip ?_)))))) <;> (first | refine thenQ_ret ?_ | (refine thenQ_nrm ?_; (refine W_seq ?_; (refine W_rgn ?_; ((refine Ra rfl (X_mv rfl ?_)) <;> (refine R_nil ?_))) <;> ((refine thenQ_nrm ?_; (refine W_seq ?_; (refine W_seq ?_; (refine W_rgn ?_; ((refine Ra rfl (X_mv rfl ?_)) <;> (refine R_nil ?_))) <;> ((refine thenQ_nrm ?_; (refine W_block ?_; ((
      have hu9 : ∀ i, (u.take i).length ≤ 9 := fun i => by rw [List.length_take]; omega
      refine wLoop (fun i : Nat => [(3, .int .i64 ((u.take i).foldl numF 0)), (4, .int .i64 i)]) (fun _ => [.box b1 [.int .i64 kd, .string ⟨⟨u⟩⟩]]) (fun i _ => i ≤ u.length) (fun i => u.length - i) 0 (by repeat' (first | exact trivial | exact rfl | constructor)) (Upd.done ⟨Nat.zero_le _, hB rfl Has.nil⟩) ?_
      intro i Z1 hz1 hi
      have hni := foldF_9 (hu9 i)
      have hdi := dgV_le (u.getD i default)) <;> (refine W_seq ?_; (refine W_seq ?_; (refine W_rgn ?_; ((refine Ra rfl (X_mv rfl ?_)) <;> (refine Ra rfl (X_faddr rfl ?_)) <;> (refine Ra rfl (X_load (lB rfl rfl) ?_)) <;> (refine Ra rfl (xLenL rfl ?_)) <;> (refine Ra rfl (X_lss rfl rfl (fun _ => ?_) (fun _ => ?_))) <;> (refine R_nil ?_))) <;> ((refine thenQ_nrm ?_; (refine W_cond rfl (fun ht => ?_) (fun ht => ?_) <;> (first | exact absurd ht (by decide) | (refine W_skip ?_) | (refine W_exit ?_)))))) <;> (first | refine thenQ_ext ?_ | (refine thenQ_nrm ?_; (refine W_seq ?_; (refine W_block ?_; (refine W_rgn ?_; ((refine Ra rfl (X_mv rfl ?_)) <;> (refine Ra rfl (X_mulI rfl rfl (by first | omega | assumption) (by first | omega | assumption) ?_)) <;> (refine Ra rfl (X_faddr rfl ?_)) <;> (refine Ra rfl (X_load (lB rfl rfl) ?_)) <;> (refine Ra rfl (X_mv rfl ?_)) <;> (refine Ra rfl (xIdL rfl rfl (by omega) (by omega) ?_)) <;> (refine Ra rfl (X_sub48 rfl rfl ?_)) <;> (refine Ra rfl (X_convD rfl ?_)) <;> (refine Ra rfl (X_addI rfl rfl (by omega) (by omega) ?_)) <;> (refine Ra rfl (X_mv rfl ?_)) <;> (refine R_nil ?_))) <;> (refine blockQ_nrm ?_)) <;> ((refine thenQ_nrm ?_; (refine W_rgn ?_; ((refine Ra rfl (X_mv rfl ?_)) <;> (refine Ra rfl (X_addI rfl rfl (by omega) (by omega) ?_)) <;> (refine Ra rfl (X_mv rfl ?_)) <;> (refine R_nil ?_))))))))) <;> (first | refine thenQ_ext ?_ | (refine thenQ_nrm ?_; (
        refine Upd.done ⟨i + 1, by omega, by omega, ?_, hB rfl Has.nil⟩
        rw [foldF_take (by omega)]
        exact (by repeat' (first | exact trivial | exact rfl | constructor)))))) <;> (refine blockQ_ext ?_))))) <;> ((refine thenQ_nrm ?_; (refine W_seq ?_; (refine W_rgn ?_; ((refine Ra rfl (X_mv rfl ?_)) <;> (refine Ra rfl (X_mv rfl ?_)) <;> (refine R_nil ?_))) <;> ((refine thenQ_nrm ?_; (refine W_ret ?_))))))))))))))))
  <;> (refine fnP_ret (Res.tmp rfl Res.nil) ?_)
  all_goals
    unfold numR
    first
      | (rw [if_pos (by omega)]; done)
      | (rw [if_pos (by omega)]; rfl)
      | (have hi9 : i = u.length := by omega
         subst hi9
         rw [if_neg (by omega), List.take_length]; rfl)
set_option maxHeartbeats 4000000 in
theorem RSign_ok (lo : Nat) {Z : Vw} (op : Int) (hop : IsOp op) : CallP F lo 104 [.int .i64 op] Z fun r _ => r = .string ⟨⟨signV op⟩⟩ := by
  refine FnP (fn := c104) rfl rfl rfl ?_
  (refine W_seq ?_; (refine W_rgn ?_; ((refine Ra rfl (X_mv rfl ?_)) <;> (refine R_nil ?_))) <;> ((refine thenQ_nrm ?_; (refine W_seq ?_; (refine W_seq ?_; (refine W_rgn ?_; ((refine Ra rfl (X_mv rfl ?_)) <;> (refine R_nil ?_))) <;> ((refine thenQ_nrm ?_; (refine W_block ?_; (refine W_seq ?_; (refine W_rgn ?_; ((refine Ra rfl (X_eql rfl rfl (fun _ => ?_) (fun _ => ?_))) <;> (refine Ra rfl (X_mv rfl ?_)) <;> (refine R_nil ?_))) <;> ((refine thenQ_nrm ?_; (refine W_cond rfl (fun ht => ?_) (fun ht => ?_) <;> (first | exact absurd ht (by decide) | (refine W_seq ?_; (refine W_rgn ?_; ((refine Ra rfl (X_mv rfl ?_)) <;> (refine R_nil ?_))) <;> ((refine thenQ_nrm ?_; (refine W_ret ?_)))) | (refine W_seq ?_; (refine W_rgn ?_; ((refine Ra rfl (X_eql rfl rfl (fun _ => ?_) (fun _ => ?_))) <;> (refine Ra rfl (X_mv rfl ?_)) <;> (refine R_nil ?_))) <;> ((refine thenQ_nrm ?_; (refine W_cond rfl (fun ht => ?_) (fun ht => ?_) <;> (first | exact absurd ht (by decide) | (refine W_seq ?_; (refine W_rgn ?_; ((refine Ra rfl (X_mv rfl ?_)) <;> (refine R_nil ?_))) <;> ((refine thenQ_nrm ?_; (refine W_ret ?_)))) | (refine W_seq ?_; (refine W_rgn ?_; ((refine Ra rfl (X_eql rfl rfl (fun _ => ?_) (fun _ => ?_))) <;> (refine Ra rfl (X_mv rfl ?_)) <;> (refine R_nil ?_))) <;> ((refine thenQ_nrm ?_; (refine W_cond rfl (fun ht => ?_) (fun ht => ?_) <;> (first | exact absurd ht (by decide) | (refine W_seq ?_; (refine W_rgn ?_; ((refine Ra rfl (X_mv rfl ?_)) <;> (refine R_nil ?_))) <;> ((refine thenQ_nrm ?_; (refine W_ret ?_)))) | (refine W_seq ?_; (refine W_rgn ?_; ((refine Ra rfl (X_eql rfl rfl (fun _ => ?_) (fun _ => ?_))) <;> (refine Ra rfl (X_mv rfl ?_)) <;> (refine R_nil ?_))) <;> ((refine thenQ_nrm ?_; (refine W_cond rfl (fun ht => ?_) (fun ht => ?_) <;> (first | exact absurd ht (by decide) | (refine W_seq ?_; (refine W_rgn ?_; ((refine Ra rfl (X_mv rfl ?_)) <;> (refine R_nil ?_))) <;> ((refine thenQ_nrm ?_; (refine W_ret ?_)))) | (refine W_seq ?_; (refine W_rgn ?_; ((refine Ra rfl (X_eql rfl rfl (fun _ => ?_) (fun _ => ?_))) <;> (refine Ra rfl (X_mv rfl ?_)) <;> (refine R_nil ?_))) <;> ((refine thenQ_nrm ?_; (refine W_cond rfl (fun ht => ?_) (fun ht => ?_) <;> (first | exact absurd ht (by decide) | (refine W_seq ?_; (refine W_rgn ?_; ((refine Ra rfl (X_mv rfl ?_)) <;> (refine R_nil ?_))) <;> ((refine thenQ_nrm ?_; (refine W_ret ?_)))) | (refine W_seq ?_; (refine W_rgn ?_; ((refine Ra rfl (X_eql rfl rfl (fun _ => ?_) (fun _ => ?_))) <;> (refine Ra rfl (X_mv rfl ?_)) <;> (refine R_nil ?_))) <;> ((refine thenQ_nrm ?_; (refine W_cond rfl (fun ht => ?_) (fun ht => ?_) <;> (first | exact absurd ht (by decide) | (refine W_seq ?_; (refine W_rgn ?_; ((refine Ra rfl (X_mv rfl ?_)) <;> (refine R_nil ?_))) <;> ((refine thenQ_nrm ?_; (refine W_ret ?_)))) | (refine W_seq ?_; (refine W_rgn ?_; ((refine Ra rfl (X_eql rfl rfl (fun _ => ?_) (fun _ => ?_))) <;> (refine Ra rfl (X_mv rfl ?_)) <;> (refine R_nil ?_))) <;> ((refine thenQ_nrm ?_; (refine W_cond rfl (fun ht => ?_) (fun ht => ?_) <;> (first | exact absurd ht (by decide) | (refine W_seq ?_; (refine W_rgn ?_; ((refine Ra rfl (X_mv rfl ?_)) <;> (refine R_nil ?_))) <;> ((refine thenQ_nrm ?_; (refine W_ret ?_)))) | (refine W_seq ?_; (refine W_rgn ?_; ((refine Ra rfl (X_eql rfl rfl (fun _ => ?_) (fun _ => ?_))) <;> (refine Ra rfl (X_mv rfl ?_)) <;> (refine R_nil ?_))) <;> ((refine thenQ_nrm ?_; (refine W_cond rfl (fun ht => ?_) (fun ht => ?_) <;> (first | exact absurd ht (by decide) | (refine W_seq ?_; (refine W_rgn ?_; ((refine Ra rfl (X_mv rfl ?_)) <;> (refine R_nil ?_))) <;> ((refine thenQ_nrm ?_; (refine W_ret ?_)))) | (refine W_seq ?_; (refine W_rgn ?_; ((refine Ra rfl (X_eql rfl rfl (fun _ => ?_) (fun _ => ?_))) <;> (refine Ra rfl (X_mv rfl ?_)) <;> (refine R_nil ?_))) <;> ((refine thenQ_nrm ?_; (refine W_cond rfl (fun ht => ?_) (fun ht => ?_) <;> (first | exact absurd ht (by decide) | (refine W_seq ?_; (refine W_rgn ?_; ((refine Ra rfl (X_mv rfl ?_)) <;> (refine R_nil ?_))) <;> ((refine thenQ_nrm ?_; (refine W_ret ?_)))) | (refine W_seq ?_; (refine W_rgn ?_; ((refine Ra rfl (X_eql rfl rfl (fun _ => ?_) (fun _ => ?_))) <;> (refine Ra rfl (X_mv rfl ?_)) <;> (refine R_nil ?_))) <;> ((refine thenQ_nrm ?_; (refine W_cond rfl (fun ht => ?_) (fun ht => ?_) <;> (first | exact absurd ht (by decide) | (refine W_seq ?_; (refine W_rgn ?_; ((refine Ra rfl (X_mv rfl ?_)) <;> (refine R_nil ?_))) <;> ((refine thenQ_nrm ?_; (refine W_ret ?_)))) | (refine W_seq ?_; (refine W_rgn ?_; ((refine Ra rfl (X_eql rfl rfl (fun _ => ?_) (fun _ => ?_))) <;> (refine Ra rfl (X_mv rfl ?_)) <;> (refine R_nil ?_))) <;> ((refine thenQ_nrm ?_; (refine W_cond rfl (fun ht => ?_) (fun ht => ?_) <;> (first | exact absurd ht (by decide) | (refine W_seq ?_; (refine W_rgn ?_; ((refine Ra rfl (X_mv rfl ?_)) <;> (refine R_nil ?_))) <;> ((refine thenQ_nrm ?_; (refine W_ret ?_)))) | (refine W_skip ?_)))))))))))))))))))))))))))))))))))))))))))))))))))))))) <;> (first | refine blockQ_nrm ?_ | refine blockQ_ret ?_))))) <;> (first | refine thenQ_ret ?_ | (refine thenQ_nrm ?_; (refine W_seq ?_; (refine W_rgn ?_; ((refine Ra rfl (X_mv rfl ?_)) <;> (refine R_nil ?_))) <;> ((refine thenQ_nrm ?_; (refine W_ret ?_))))))))))
  <;> (refine fnP_ret (Res.tmp rfl Res.nil) ?_)
  all_goals
    first
      | (subst_vars; rfl)
      | (unfold IsOp at hop
         obtain rfl : op = 14 := by omega
         rfl)
set_option maxHeartbeats 4000000 in
theorem ROp_ok (lo : Nat) {Z : Vw} (m : Tok) : CallP F lo 92 [.string ⟨⟨m⟩⟩] Z fun r _ => ∃ x, r = .int .i64 x ∧ ((opT m = some x ∧ 2 ≤ x ∧ x ≤ 14) ∨ (x = -1 ∧ opT m = none)) := by
  refine FnP (fn := c92) rfl rfl rfl ?_
  (refine W_seq ?_; (refine W_rgn ?_; ((refine Ra rfl (X_mv rfl ?_)) <;> (refine R_nil ?_))) <;> ((refine thenQ_nrm ?_; (refine W_seq ?_; (refine W_seq ?_; (refine W_rgn ?_; ((refine Ra rfl (X_mv rfl ?_)) <;> (refine R_nil ?_))) <;> ((refine thenQ_nrm ?_; (refine W_block ?_; ((
      refine wLoop (fun i : Nat => [(3, .int .i64 (i : Nat))]) (fun _ => []) (fun i _ => 2 ≤ i ∧ i ≤ 15 ∧ ∀ j : Nat, 2 ≤ j → j < i → signV j = [] ∨ m ≠ signV j) (fun i => 15 - i) 2 (by repeat' (first | exact trivial | exact rfl | constructor)) (Upd.done ⟨⟨by omega, by omega, fun j h1 h2 => absurd h1 (by omega)⟩, Has.nil⟩) ?_
      intro i Z1 hz1 hp
      obtain ⟨hi0, hi, hp⟩ := hp) <;> (refine W_seq ?_; (refine W_seq ?_; (refine W_rgn ?_; ((refine Ra rfl (X_mv rfl ?_)) <;> (refine Ra rfl (X_leq rfl rfl (fun _ => ?_) (fun _ => ?_))) <;> (refine R_nil ?_))) <;> ((refine thenQ_nrm ?_; (refine W_cond rfl (fun ht => ?_) (fun ht => ?_) <;> (first | exact absurd ht (by decide) | (refine W_skip ?_) | (refine W_exit ?_)))))) <;> (first | refine thenQ_ext ?_ | (refine thenQ_nrm ?_; (refine W_seq ?_; (refine W_block ?_; (refine W_seq ?_; (refine W_rgn ?_; ((refine Ra rfl (X_mv rfl ?_)) <;> (refine Ra rfl (xP (Two_ok lo _) rfl (fun _ Z9 hz9 hb9 => ?_)); (obtain ⟨b9, rfl, hb9⟩ := hb9; cases b9 <;> simp only [Bool.false_eq_true, false_iff, true_iff] at hb9)) <;> (refine Ra rfl (X_mv rfl ?_)) <;> (first | (refine Rb rfl rfl (X_mv rfl ?_)) | (refine Rc rfl rfl ?_)) <;> (first | (refine Rb rfl rfl (xP (RSign_ok lo _ (by assumption)) rfl (fun _ Z12 hz12 hq => ?_)); (subst hq)) | (refine Rc rfl rfl ?_)) <;> (first | (refine Rb rfl rfl (X_mv rfl ?_)) | (refine Rc rfl rfl ?_)) <;> (first | (refine Rb rfl rfl (xEqL rfl rfl (fun he14 => ?_) (fun he14 => ?_))) | (refine Rc rfl rfl ?_)) <;> (first | (refine Ra rfl (X_pickT rfl rfl ?_)) | (refine Ra rfl (X_pickF rfl rfl ?_))) <;> (refine R_nil ?_))) <;> ((refine thenQ_nrm ?_; (refine W_cond rfl (fun ht => ?_) (fun ht => ?_) <;> (first | exact absurd ht (by decide) | (refine W_seq ?_; (refine W_rgn ?_; ((refine Ra rfl (X_mv rfl ?_)) <;> (refine Ra rfl (X_mv rfl ?_)) <;> (refine R_nil ?_))) <;> ((refine thenQ_nrm ?_; (refine W_ret ?_)))) | (refine W_skip ?_)))))) <;> (first | refine blockQ_nrm ?_ | refine blockQ_ret ?_)) <;> (first | refine thenQ_ret ?_ | (refine thenQ_nrm ?_; (refine W_rgn ?_; ((refine Ra rfl (X_mv rfl ?_)) <;> (refine Ra rfl (X_addI rfl rfl (by omega) (by omega) ?_)) <;> (refine Ra rfl (X_mv rfl ?_)) <;> (refine R_nil ?_))))))))) <;> (first | refine thenQ_ret ?_ | refine thenQ_ext ?_ | (refine thenQ_nrm ?_; (
        refine Upd.done ⟨i + 1, by omega, ⟨by omega, by omega, fun j h1 h2 => ?_⟩, (by repeat' (first | exact trivial | exact rfl | constructor)), Has.nil⟩
        rcases Nat.lt_or_ge j i with h | h
        · exact hp j h1 h
        · obtain rfl : j = i := by omega
          first
            | exact .inr (fun e => he14 e.symm)
            | exact .inl (sign_nop (by omega) (by omega) (by assumption)))))) <;> (first | refine blockQ_ret ?_ | refine blockQ_ext ?_))))) <;> (first | refine thenQ_ret ?_ | (refine thenQ_nrm ?_; (refine W_seq ?_; (refine W_rgn ?_; ((refine Ra rfl (X_mv rfl ?_)) <;> (refine R_nil ?_))) <;> ((refine thenQ_nrm ?_; (refine W_ret ?_))))))))))
  <;> (refine fnP_ret (Res.tmp rfl Res.nil) ?_)
  all_goals
    first
      | exact ⟨_, rfl, .inl ⟨by rw [← he14]; exact opT_sign (by omega) (by omega) (sign_op (by omega) (by omega) (by assumption)), by omega, by omega⟩⟩
      | exact ⟨_, rfl, .inr ⟨rfl, opT_none fun j h1 h2 => hp j h1 (by omega)⟩⟩
set_option maxHeartbeats 4000000 in
theorem TOf_ok (lo : Nat) {Z : Vw} (op : Int) {v : Value} {xs : List (List Value)} (hf : Fz Z 4 v xs) : CallP F lo 66 [.int .i64 op, v] Z fun r _ => r = .agg ⟨[.int .i64 op, .int .i64 0, .int .i64 0, v]⟩ := by
  refine FnP (fn := c66) rfl rfl rfl ?_
  (refine W_seq ?_; (refine W_rgn ?_; ((refine Ra rfl (X_alloc (fun b4 => ?_))) <;> (refine R_nil ?_))) <;> ((refine thenQ_nrm ?_; (refine W_seq ?_; (refine W_rgn ?_; ((refine Ra rfl (X_mv rfl ?_)) <;> (refine Ra rfl (X_mv rfl ?_)) <;> (refine Ra rfl (X_buildC (pCons rfl (pCons rfl Parts.nil)) rfl ?_)) <;> (refine Rn (xSW rfl rfl rfl rfl ?_)) <;> (refine R_nil ?_))) <;> ((refine thenQ_nrm ?_; (refine W_ret ?_)))))))
  <;> (refine fnP_ret (rA rfl rfl Res.nil) ?_)
  all_goals rfl
set_option maxHeartbeats 4000000 in
theorem RConst_ok (lo : Nat) {Z : Vw} (n : Int) : CallP F lo 62 [.int .i64 n] Z fun r _ => r = .agg ⟨[.int .i64 0, .int .i64 n, .int .i64 0, .slice none 0 0]⟩ := by
  refine FnP (fn := c62) rfl rfl rfl ?_
  (refine W_seq ?_; (refine W_rgn ?_; ((refine Ra rfl (X_alloc (fun b2 => ?_))) <;> (refine R_nil ?_))) <;> ((refine thenQ_nrm ?_; (refine W_seq ?_; (refine W_rgn ?_; ((refine Ra rfl (X_mv rfl ?_)) <;> (refine Ra rfl (X_buildC (pCons rfl (pCons rfl Parts.nil)) rfl ?_)) <;> (refine Rn (xSW rfl rfl rfl rfl ?_)) <;> (refine R_nil ?_))) <;> ((refine thenQ_nrm ?_; (refine W_ret ?_)))))))
  <;> (refine fnP_ret (rA rfl rfl Res.nil) ?_)
  all_goals rfl
end Go.Proofs.Ytlidnionbofkaaa.Hm.V
