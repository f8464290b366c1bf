/- Words: the program's functions. -/
import Derived.Test.YtlidnionbofkaaaHF
import Derived.Test.YtlidnionbofkaaaA6
import Derived.Test.YtlidnionbofkaaaVW1
namespace Go.Proofs.Ytlidnionbofkaaa.Hm.V
open Go
set_option linter.all false
set_option maxRecDepth 100000
attribute [local irreducible] X S R D W Call Upd Rds Rck Sees Res Cel CallP fnQ
theorem toNat_p (n : Nat) : ((2 : Int) ^ n - 1).toNat = 2 ^ n - 1 := by rw [pow_nat]; have : 0 < 2 ^ n := Nat.pow_pos (by decide); omega
set_option maxHeartbeats 4000000 in
theorem top_ok (lo : Nat) {Z : Vw} (w : Int) {m : Nat} [tn : TN w m] (h0 : 0 ≤ w) (h1 : w ≤ 61) : CallP F lo 96 [.int .i64 w] Z fun r _ => r = .int .i64 (2 ^ m - 1) := by
  have hb := pow_le_ (m := w.toNat) (n := 61) (by omega)
  have e61 : (2 : Int) ^ 61 = 2305843009213693952 := by decide
  have hb2 := pow_pos_ w.toNat
  obtain rfl := tn.out
  refine FnP (fn := c96) rfl rfl rfl ?_
  (refine W_seq ?_; (refine W_rgn ?_; ((refine Ra rfl (X_mv rfl ?_)) <;> (refine R_nil ?_))) <;> ((refine thenQ_nrm ?_; (refine W_seq ?_; (refine W_rgn ?_; ((refine Ra rfl (X_mv rfl ?_)) <;> (refine Ra rfl (X_convU rfl (by omega) (by omega) ?_)) <;> (refine Ra rfl (X_shlI rfl rfl (by omega) (by omega) (by omega) (by omega) ?_)) <;> (refine Ra rfl (X_subI rfl rfl (by omega) (by omega) ?_)) <;> (refine Ra rfl (X_mv rfl ?_)) <;> (refine R_nil ?_))) <;> ((refine thenQ_nrm ?_; (refine W_ret ?_)))))))
  <;> (refine fnP_ret (Res.tmp rfl Res.nil) ?_)
  all_goals (simp only [tupled, Int.one_mul])
set_option maxHeartbeats 4000000 in
theorem ok_ok (lo : Nat) {Z : Vw} {v : Value} {l : List Int} (w : Int) [hl : IntsL Z v l] (hlen : l.length < 9223372036854775808) : CallP F lo 95 [.int .i64 w, v] Z fun r _ => ∃ b, r = .bool b ∧ (b = true ↔ widP w ∧ wdsP w l) := by
  have hl := hl.out
  refine FnP (fn := c95) rfl rfl rfl ?_
  (refine W_seq ?_; (refine W_rgn ?_; ((refine Ra rfl (X_mv rfl ?_)) <;> (refine R_nil ?_))) <;> ((refine thenQ_nrm ?_; (refine W_seq ?_; (refine W_seq ?_; (refine W_rgn ?_; ((refine Ra rfl (X_mv rfl ?_)) <;> (refine Ra rfl (X_lss rfl rfl (fun _ => ?_) (fun _ => ?_))) <;> (refine Ra rfl (X_mv rfl ?_)) <;> (first | (refine Rb rfl rfl (X_mv rfl ?_)) | (refine Rc rfl rfl ?_)) <;> (first | (refine Rb rfl rfl (X_gtr rfl rfl (fun _ => ?_) (fun _ => ?_))) | (refine Rc rfl rfl ?_)) <;> (first | (refine Ra rfl (X_pickT rfl rfl ?_)) | (refine Ra rfl (X_pickF rfl rfl ?_))) <;> (refine R_nil ?_))) <;> ((refine thenQ_nrm ?_; (refine W_cond rfl (fun ht => ?_) (fun ht => ?_) <;> (first | exact absurd ht (by decide) | (refine W_seq ?_; (refine W_rgn ?_; ((refine Ra rfl (X_mv rfl ?_)) <;> (refine R_nil ?_))) <;> ((refine thenQ_nrm ?_; (refine W_ret ?_)))) | (refine W_skip ?_)))))) <;> (first | refine thenQ_ret ?_ | (refine thenQ_nrm ?_; (refine W_seq ?_; (refine W_seq ?_; (refine W_rgn ?_; ((refine Ra rfl (X_mv rfl ?_)) <;> (refine Ra rfl (xLen rfl ?_)) <;> (refine Ra rfl (X_mv rfl ?_)) <;> (refine R_nil ?_))) <;> ((refine thenQ_nrm ?_; (refine W_block ?_; ((
      refine wLoop (fun i : Nat => [(15, .int .i64 i)]) (fun i => []) (fun i Zi => i ≤ l.length ∧ ∀ j, j < i → wrdP w (l.getD j default)) (fun i => l.length - i) 0 (by repeat' (first | exact trivial | exact rfl | constructor)) (Upd.done ⟨⟨Nat.zero_le _, fun j hj => absurd hj (by omega)⟩, Has.nil⟩) ?_
      intro i Z1 hz1 hp
      obtain ⟨hi, hp⟩ := hp) <;> (refine W_seq ?_; (refine W_rgn ?_; ((refine Ra rfl (X_lss rfl rfl (fun _ => ?_) (fun _ => ?_))) <;> (refine R_nil ?_))) <;> ((refine thenQ_nrm ?_; (refine W_seq ?_; (refine W_cond rfl (fun ht => ?_) (fun ht => ?_) <;> (first | exact absurd ht (by decide) | (refine W_skip ?_) | (refine W_exit ?_))) <;> (first | refine thenQ_ext ?_ | (refine thenQ_nrm ?_; (refine W_seq ?_; (refine W_block ?_; (refine W_seq ?_; (refine W_rgn ?_; ((refine Ra rfl (xIa rfl rfl (by omega) (by omega) ?_)) <;> (refine Ra rfl (X_load (lE0 rfl (by omega) rfl) ?_)) <;> (refine Ra rfl (X_mv rfl ?_)) <;> (refine R_nil ?_))) <;> ((refine thenQ_nrm ?_; (refine W_seq ?_; (refine W_rgn ?_; ((refine Ra rfl (X_mv rfl ?_)) <;> (refine Ra rfl (X_lss rfl rfl (fun _ => ?_) (fun _ => ?_))) <;> (refine Ra rfl (X_mv rfl ?_)) <;> (first | (refine Rb rfl rfl (X_mv rfl ?_)) | (refine Rc rfl rfl ?_)) <;> (first | (refine Rb rfl rfl (X_mv rfl ?_)) | (refine Rc rfl rfl ?_)) <;> (first | (refine Rb rfl rfl (xP (top_ok lo _ (by omega) (by omega)) rfl (fun _ Z24 hz24 hq => ?_)); (subst hq)) | (refine Rc rfl rfl ?_)) <;> (first | (refine Rb rfl rfl (X_gtr rfl rfl (fun _ => ?_) (fun _ => ?_))) | (refine Rc rfl rfl ?_)) <;> (first | (refine Ra rfl (X_pickT rfl rfl ?_)) | (refine Ra rfl (X_pickF rfl rfl ?_))) <;> (refine R_nil ?_))) <;> ((refine thenQ_nrm ?_; (refine W_cond rfl (fun ht => ?_) (fun ht => ?_) <;> (first | exact absurd ht (by decide) | (refine W_seq ?_; (refine W_rgn ?_; ((refine Ra rfl (X_mv rfl ?_)) <;> (refine R_nil ?_))) <;> ((refine thenQ_nrm ?_; (refine W_ret ?_)))) | (refine W_skip ?_))))))))) <;> (first | refine blockQ_nrm ?_ | refine blockQ_ret ?_)) <;> (first | refine thenQ_ret ?_ | (refine thenQ_nrm ?_; (refine W_rgn ?_; ((refine Ra rfl (X_addI rfl rfl (by omega) (by omega) ?_)) <;> (refine Ra rfl (X_mv rfl ?_)) <;> (refine R_nil ?_)))))))))))) <;> (first | refine thenQ_ret ?_ | refine thenQ_ext ?_ | (refine thenQ_nrm ?_; (
        refine Upd.done ⟨i + 1, by omega, ⟨by omega, fun j hj => ?_⟩, (by repeat' (first | exact trivial | exact rfl | constructor)), Has.nil⟩
        rcases Nat.lt_or_ge j i with hj | hj
        · exact hp j hj
        · obtain rfl : j = i := by omega
          unfold wrdP; omega)))) <;> (first | refine blockQ_ret ?_ | refine blockQ_ext ?_))))) <;> (first | refine thenQ_ret ?_ | (refine thenQ_nrm ?_; (refine W_seq ?_; (refine W_rgn ?_; ((refine Ra rfl (X_mv rfl ?_)) <;> (refine R_nil ?_))) <;> ((refine thenQ_nrm ?_; (refine W_ret ?_)))))))))))))
  <;> (refine fnP_ret (Res.tmp rfl Res.nil) ?_)
  all_goals first
    | exact ⟨_, rfl, fun _ => ⟨by unfold widP; omega, fun j hj => hp j (by omega)⟩, fun _ => rfl⟩
    | (refine ⟨_, rfl, fun hh => (by cases hh), fun hr => ?_⟩
       obtain ⟨⟨r1, r2⟩, r3⟩ := hr
       first
         | (exfalso; omega)
         | (have r4 := r3 i (by omega)
            unfold wrdP at r4
            exfalso; omega))
set_option maxHeartbeats 4000000 in
theorem shifted_ok (lo : Nat) {Z : Vw} (w a b : Int) (up : Bool) (hw : widP w) (ha : wrdP w a) (hb : wrdP w b) : CallP F lo 114 [.int .i64 w, .int .i64 a, .int .i64 b, .bool up] Z fun r _ => r = .int .i64 (if w ≤ b then 0 else if up = true then a * 2 ^ b.toNat else a / 2 ^ b.toNat) := by
  have hp := pow_w hw.1 hw.2
  have hA := ha
  have hB := hb
  obtain ⟨ha1, ha2⟩ := ha
  obtain ⟨hb1, hb2⟩ := hb
  have hw1 := hw.1
  have hw2 := hw.2
  have hs0 : 0 ≤ a * 2 ^ b.toNat := Int.mul_nonneg ha1 (Int.le_of_lt (pow_pos_ _))
  have hs1 : b < w → a * 2 ^ b.toNat ≤ 256 * 256 := fun h => Int.mul_le_mul (by omega) (by have := pow_le_ (m := b.toNat) (n := 8) (by omega); omega) (Int.le_of_lt (pow_pos_ _)) (by decide)
  have hs2 := pow_pos_ b.toNat
  refine FnP (fn := c114) rfl rfl rfl ?_
  (refine W_seq ?_; (refine W_rgn ?_; ((refine Ra rfl (X_mv rfl ?_)) <;> (refine R_nil ?_))) <;> ((refine thenQ_nrm ?_; (refine W_seq ?_; (refine W_block ?_; (refine W_seq ?_; (refine W_rgn ?_; ((refine Ra rfl (X_mv rfl ?_)) <;> (refine Ra rfl (X_mv rfl ?_)) <;> (refine Ra rfl (X_geq rfl rfl (fun _ => ?_) (fun _ => ?_))) <;> (refine Ra rfl (X_mv rfl ?_)) <;> (refine R_nil ?_))) <;> ((refine thenQ_nrm ?_; (refine W_cond rfl (fun ht => ?_) (fun ht => ?_) <;> (first | exact absurd ht (by decide) | (refine W_seq ?_; (refine W_rgn ?_; ((refine Ra rfl (X_mv rfl ?_)) <;> (refine R_nil ?_))) <;> ((refine thenQ_nrm ?_; (refine W_ret ?_)))) | (refine W_seq ?_; (refine W_rgn ?_; ((refine Ra rfl (X_mv rfl ?_)) <;> (refine Ra rfl (X_mv rfl ?_)) <;> (refine R_nil ?_))) <;> ((refine thenQ_nrm ?_; (refine W_cond rfl (fun ht => ?_) (fun ht => ?_) <;> (first | (refine W_seq ?_; (refine W_rgn ?_; ((refine Ra rfl (X_mv rfl ?_)) <;> (refine Ra rfl (X_mv rfl ?_)) <;> (refine Ra rfl (X_convU rfl (by omega) (by omega) ?_)) <;> (refine Ra rfl (X_shlI rfl rfl (by omega) (by omega) (by omega) (by omega) ?_)) <;> (refine Ra rfl (X_mv rfl ?_)) <;> (refine R_nil ?_))) <;> ((refine thenQ_nrm ?_; (refine W_ret ?_)))) | (refine W_skip ?_))))))))))) <;> (first | refine blockQ_nrm ?_ | refine blockQ_ret ?_)) <;> (first | refine thenQ_ret ?_ | (refine thenQ_nrm ?_; (refine W_seq ?_; (refine W_rgn ?_; ((refine Ra rfl (X_mv rfl ?_)) <;> (refine Ra rfl (X_mv rfl ?_)) <;> (refine Ra rfl (X_convU rfl (by omega) (by omega) ?_)) <;> (refine Ra rfl (X_shrI rfl rfl (by omega) (by omega) ?_)) <;> (refine Ra rfl (X_mv rfl ?_)) <;> (refine R_nil ?_))) <;> ((refine thenQ_nrm ?_; (refine W_ret ?_))))))))))
  <;> (refine fnP_ret (Res.tmp rfl Res.nil) ?_)
  all_goals
    simp only [tupled]
    repeat (first | rw [if_pos (by assumption)] | rw [if_neg (by omega)] | rw [ht] | rw [if_neg (by decide)])
    try rfl
set_option maxHeartbeats 4000000 in
theorem truth_ok (lo : Nat) {Z : Vw} (b : Bool) : CallP F lo 117 [.bool b] Z fun r _ => r = .int .i64 (if b = true then 1 else 0) := by
  refine FnP (fn := c117) rfl rfl rfl ?_
  (refine W_seq ?_; (refine W_rgn ?_; ((refine Ra rfl (X_mv rfl ?_)) <;> (refine R_nil ?_))) <;> ((refine thenQ_nrm ?_; (refine W_seq ?_; (refine W_seq ?_; (refine W_rgn ?_; ((refine Ra rfl (X_mv rfl ?_)) <;> (refine R_nil ?_))) <;> ((refine thenQ_nrm ?_; (refine W_cond rfl (fun ht => ?_) (fun ht => ?_) <;> (first | (refine W_seq ?_; (refine W_rgn ?_; ((refine Ra rfl (X_mv rfl ?_)) <;> (refine R_nil ?_))) <;> ((refine thenQ_nrm ?_; (refine W_ret ?_)))) | (refine W_skip ?_)))))) <;> (first | refine thenQ_ret ?_ | (refine thenQ_nrm ?_; (refine W_seq ?_; (refine W_rgn ?_; ((refine Ra rfl (X_mv rfl ?_)) <;> (refine R_nil ?_))) <;> ((refine thenQ_nrm ?_; (refine W_ret ?_))))))))))
  <;> (refine fnP_ret (Res.tmp rfl Res.nil) ?_)
  all_goals (rw [ht]; rfl)
set_option maxHeartbeats 4000000 in
theorem raw2_ok (lo : Nat) {Z : Vw} (w a b : Int) (hw : widP w) (ha : wrdP w a) (hb : wrdP w b) : CallP F lo 105 [.int .i64 w, .int .i64 a, .int .i64 b] Z fun r _ => ∃ x, r = .int .i64 x ∧ x % 2 ^ w.toNat = doW 2 w a b := by
  have hp := pow_w hw.1 hw.2
  have hA := ha
  have hB := hb
  obtain ⟨ha1, ha2⟩ := ha
  obtain ⟨hb1, hb2⟩ := hb
  have hw1 := hw.1
  have hw2 := hw.2
  refine FnP (fn := c105) rfl rfl rfl ?_
  (refine W_seq ?_; (refine W_rgn ?_; ((refine Ra rfl (X_mv rfl ?_)) <;> (refine R_nil ?_))) <;> ((refine thenQ_nrm ?_; (refine W_seq ?_; (refine W_rgn ?_; ((refine Ra rfl (X_mv rfl ?_)) <;> (refine Ra rfl (X_mv rfl ?_)) <;> (refine Ra rfl (X_addI rfl rfl (by omega) (by omega) ?_)) <;> (refine Ra rfl (X_mv rfl ?_)) <;> (refine R_nil ?_))) <;> ((refine thenQ_nrm ?_; (refine W_ret ?_)))))))
  <;> (refine fnP_ret (Res.tmp rfl Res.nil) ?_)
  all_goals
    have hd := doW_wrd (op := 2) hw hA hB
    refine ⟨_, rfl, ?_⟩
    first
      | rfl
      | (have e : doW 2 w a b = if b = 0 then 2 ^ w.toNat - 1 else a / b := rfl
         rw [e] at hd ⊢
         repeat (first | rw [if_pos (by assumption)] at hd ⊢ | rw [if_neg (by omega)] at hd ⊢)
         exact Int.emod_eq_of_lt hd.1 hd.2)
      | (have e : doW 2 w a b = if b = 0 then a else a % b := rfl
         rw [e] at hd ⊢
         repeat (first | rw [if_pos (by assumption)] at hd ⊢ | rw [if_neg (by omega)] at hd ⊢)
         exact Int.emod_eq_of_lt hd.1 hd.2)
      | exact Int.emod_eq_of_lt hd.1 hd.2
      | (have e : doW 2 w a b = if w ≤ b then 0 else a * 2 ^ b.toNat % 2 ^ w.toNat := rfl
         rw [e]
         split <;> simp)
      | (have e : doW 2 w a b = if w ≤ b then 0 else a / 2 ^ b.toNat := rfl
         rw [e] at hd ⊢
         split at hd <;> simp_all
         exact Int.emod_eq_of_lt hd.1 hd.2)
      | (have e : doW 2 w a b = if a = b then 1 else 0 := rfl
         rw [e]
         (first | rw [if_pos rfl, if_pos (by assumption)] | rw [if_neg (by decide), if_neg (by omega)])
         exact Int.emod_eq_of_lt (by decide) (by omega))
      | (have e : doW 2 w a b = if a < b then 1 else 0 := rfl
         rw [e]
         (first | rw [if_pos rfl, if_pos (by assumption)] | rw [if_neg (by decide), if_neg (by omega)])
         exact Int.emod_eq_of_lt (by decide) (by omega))
      | skip
set_option maxHeartbeats 4000000 in
theorem raw3_ok (lo : Nat) {Z : Vw} (w a b : Int) (hw : widP w) (ha : wrdP w a) (hb : wrdP w b) : CallP F lo 106 [.int .i64 w, .int .i64 a, .int .i64 b] Z fun r _ => ∃ x, r = .int .i64 x ∧ x % 2 ^ w.toNat = doW 3 w a b := by
  have hp := pow_w hw.1 hw.2
  have hA := ha
  have hB := hb
  obtain ⟨ha1, ha2⟩ := ha
  obtain ⟨hb1, hb2⟩ := hb
  have hw1 := hw.1
  have hw2 := hw.2
  refine FnP (fn := c106) rfl rfl rfl ?_
  (refine W_seq ?_; (refine W_rgn ?_; ((refine Ra rfl (X_mv rfl ?_)) <;> (refine R_nil ?_))) <;> ((refine thenQ_nrm ?_; (refine W_seq ?_; (refine W_rgn ?_; ((refine Ra rfl (X_mv rfl ?_)) <;> (refine Ra rfl (X_mv rfl ?_)) <;> (refine Ra rfl (X_subI rfl rfl (by omega) (by omega) ?_)) <;> (refine Ra rfl (X_mv rfl ?_)) <;> (refine R_nil ?_))) <;> ((refine thenQ_nrm ?_; (refine W_ret ?_)))))))
  <;> (refine fnP_ret (Res.tmp rfl Res.nil) ?_)
  all_goals
    have hd := doW_wrd (op := 3) hw hA hB
    refine ⟨_, rfl, ?_⟩
    first
      | rfl
      | (have e : doW 3 w a b = if b = 0 then 2 ^ w.toNat - 1 else a / b := rfl
         rw [e] at hd ⊢
         repeat (first | rw [if_pos (by assumption)] at hd ⊢ | rw [if_neg (by omega)] at hd ⊢)
         exact Int.emod_eq_of_lt hd.1 hd.2)
      | (have e : doW 3 w a b = if b = 0 then a else a % b := rfl
         rw [e] at hd ⊢
         repeat (first | rw [if_pos (by assumption)] at hd ⊢ | rw [if_neg (by omega)] at hd ⊢)
         exact Int.emod_eq_of_lt hd.1 hd.2)
      | exact Int.emod_eq_of_lt hd.1 hd.2
      | (have e : doW 3 w a b = if w ≤ b then 0 else a * 2 ^ b.toNat % 2 ^ w.toNat := rfl
         rw [e]
         split <;> simp)
      | (have e : doW 3 w a b = if w ≤ b then 0 else a / 2 ^ b.toNat := rfl
         rw [e] at hd ⊢
         split at hd <;> simp_all
         exact Int.emod_eq_of_lt hd.1 hd.2)
      | (have e : doW 3 w a b = if a = b then 1 else 0 := rfl
         rw [e]
         (first | rw [if_pos rfl, if_pos (by assumption)] | rw [if_neg (by decide), if_neg (by omega)])
         exact Int.emod_eq_of_lt (by decide) (by omega))
      | (have e : doW 3 w a b = if a < b then 1 else 0 := rfl
         rw [e]
         (first | rw [if_pos rfl, if_pos (by assumption)] | rw [if_neg (by decide), if_neg (by omega)])
         exact Int.emod_eq_of_lt (by decide) (by omega))
      | skip
set_option maxHeartbeats 4000000 in
theorem raw4_ok (lo : Nat) {Z : Vw} (w a b : Int) (hw : widP w) (ha : wrdP w a) (hb : wrdP w b) : CallP F lo 107 [.int .i64 w, .int .i64 a, .int .i64 b] Z fun r _ => ∃ x, r = .int .i64 x ∧ x % 2 ^ w.toNat = doW 4 w a b := by
  have hp := pow_w hw.1 hw.2
  have hA := ha
  have hB := hb
  obtain ⟨ha1, ha2⟩ := ha
  obtain ⟨hb1, hb2⟩ := hb
  have hw1 := hw.1
  have hw2 := hw.2
  have hm0 : 0 ≤ a * b := Int.mul_nonneg ha1 hb1
  have hm1 : a * b ≤ 256 * 256 := Int.mul_le_mul (by omega) (by omega) hb1 (by decide)
  refine FnP (fn := c107) rfl rfl rfl ?_
  (refine W_seq ?_; (refine W_rgn ?_; ((refine Ra rfl (X_mv rfl ?_)) <;> (refine R_nil ?_))) <;> ((refine thenQ_nrm ?_; (refine W_seq ?_; (refine W_rgn ?_; ((refine Ra rfl (X_mv rfl ?_)) <;> (refine Ra rfl (X_mv rfl ?_)) <;> (refine Ra rfl (X_mulI rfl rfl (by first | omega | assumption) (by first | omega | assumption) ?_)) <;> (refine Ra rfl (X_mv rfl ?_)) <;> (refine R_nil ?_))) <;> ((refine thenQ_nrm ?_; (refine W_ret ?_)))))))
  <;> (refine fnP_ret (Res.tmp rfl Res.nil) ?_)
  all_goals
    have hd := doW_wrd (op := 4) hw hA hB
    refine ⟨_, rfl, ?_⟩
    first
      | rfl
      | (have e : doW 4 w a b = if b = 0 then 2 ^ w.toNat - 1 else a / b := rfl
         rw [e] at hd ⊢
         repeat (first | rw [if_pos (by assumption)] at hd ⊢ | rw [if_neg (by omega)] at hd ⊢)
         exact Int.emod_eq_of_lt hd.1 hd.2)
      | (have e : doW 4 w a b = if b = 0 then a else a % b := rfl
         rw [e] at hd ⊢
         repeat (first | rw [if_pos (by assumption)] at hd ⊢ | rw [if_neg (by omega)] at hd ⊢)
         exact Int.emod_eq_of_lt hd.1 hd.2)
      | exact Int.emod_eq_of_lt hd.1 hd.2
      | (have e : doW 4 w a b = if w ≤ b then 0 else a * 2 ^ b.toNat % 2 ^ w.toNat := rfl
         rw [e]
         split <;> simp)
      | (have e : doW 4 w a b = if w ≤ b then 0 else a / 2 ^ b.toNat := rfl
         rw [e] at hd ⊢
         split at hd <;> simp_all
         exact Int.emod_eq_of_lt hd.1 hd.2)
      | (have e : doW 4 w a b = if a = b then 1 else 0 := rfl
         rw [e]
         (first | rw [if_pos rfl, if_pos (by assumption)] | rw [if_neg (by decide), if_neg (by omega)])
         exact Int.emod_eq_of_lt (by decide) (by omega))
      | (have e : doW 4 w a b = if a < b then 1 else 0 := rfl
         rw [e]
         (first | rw [if_pos rfl, if_pos (by assumption)] | rw [if_neg (by decide), if_neg (by omega)])
         exact Int.emod_eq_of_lt (by decide) (by omega))
      | skip
set_option maxHeartbeats 4000000 in
theorem raw5_ok (lo : Nat) {Z : Vw} (w a b : Int) (hw : widP w) (ha : wrdP w a) (hb : wrdP w b) : CallP F lo 108 [.int .i64 w, .int .i64 a, .int .i64 b] Z fun r _ => ∃ x, r = .int .i64 x ∧ x % 2 ^ w.toNat = doW 5 w a b := by
  have hp := pow_w hw.1 hw.2
  have hA := ha
  have hB := hb
  obtain ⟨ha1, ha2⟩ := ha
  obtain ⟨hb1, hb2⟩ := hb
  have hw1 := hw.1
  have hw2 := hw.2
  refine FnP (fn := c108) rfl rfl rfl ?_
  (refine W_seq ?_; (refine W_rgn ?_; ((refine Ra rfl (X_mv rfl ?_)) <;> (refine R_nil ?_))) <;> ((refine thenQ_nrm ?_; (refine W_seq ?_; (refine W_seq ?_; (refine W_rgn ?_; ((refine Ra rfl (X_mv rfl ?_)) <;> (refine Ra rfl (X_eql rfl rfl (fun _ => ?_) (fun _ => ?_))) <;> (refine R_nil ?_))) <;> ((refine thenQ_nrm ?_; (refine W_cond rfl (fun ht => ?_) (fun ht => ?_) <;> (first | exact absurd ht (by decide) | (refine W_seq ?_; (refine W_rgn ?_; ((refine Ra rfl (X_mv rfl ?_)) <;> (refine Ra rfl (xP (top_ok lo _ (by omega) (by omega)) rfl (fun _ Z10 hz10 hq => ?_)); (subst hq)) <;> (refine Ra rfl (X_mv rfl ?_)) <;> (refine R_nil ?_))) <;> ((refine thenQ_nrm ?_; (refine W_ret ?_)))) | (refine W_skip ?_)))))) <;> (first | refine thenQ_ret ?_ | (refine thenQ_nrm ?_; (refine W_seq ?_; (refine W_rgn ?_; ((refine Ra rfl (X_mv rfl ?_)) <;> (refine Ra rfl (X_mv rfl ?_)) <;> (refine Ra rfl (X_quoI rfl rfl (by omega) (by omega) (by omega) ?_)) <;> (refine Ra rfl (X_mv rfl ?_)) <;> (refine R_nil ?_))) <;> ((refine thenQ_nrm ?_; (refine W_ret ?_))))))))))
  <;> (refine fnP_ret (Res.tmp rfl Res.nil) ?_)
  all_goals
    have hd := doW_wrd (op := 5) hw hA hB
    refine ⟨_, rfl, ?_⟩
    first
      | rfl
      | (have e : doW 5 w a b = if b = 0 then 2 ^ w.toNat - 1 else a / b := rfl
         rw [e] at hd ⊢
         repeat (first | rw [if_pos (by assumption)] at hd ⊢ | rw [if_neg (by omega)] at hd ⊢)
         exact Int.emod_eq_of_lt hd.1 hd.2)
      | (have e : doW 5 w a b = if b = 0 then a else a % b := rfl
         rw [e] at hd ⊢
         repeat (first | rw [if_pos (by assumption)] at hd ⊢ | rw [if_neg (by omega)] at hd ⊢)
         exact Int.emod_eq_of_lt hd.1 hd.2)
      | exact Int.emod_eq_of_lt hd.1 hd.2
      | (have e : doW 5 w a b = if w ≤ b then 0 else a * 2 ^ b.toNat % 2 ^ w.toNat := rfl
         rw [e]
         split <;> simp)
      | (have e : doW 5 w a b = if w ≤ b then 0 else a / 2 ^ b.toNat := rfl
         rw [e] at hd ⊢
         split at hd <;> simp_all
         exact Int.emod_eq_of_lt hd.1 hd.2)
      | (have e : doW 5 w a b = if a = b then 1 else 0 := rfl
         rw [e]
         (first | rw [if_pos rfl, if_pos (by assumption)] | rw [if_neg (by decide), if_neg (by omega)])
         exact Int.emod_eq_of_lt (by decide) (by omega))
      | (have e : doW 5 w a b = if a < b then 1 else 0 := rfl
         rw [e]
         (first | rw [if_pos rfl, if_pos (by assumption)] | rw [if_neg (by decide), if_neg (by omega)])
         exact Int.emod_eq_of_lt (by decide) (by omega))
      | skip
set_option maxHeartbeats 4000000 in
theorem raw6_ok (lo : Nat) {Z : Vw} (w a b : Int) (hw : widP w) (ha : wrdP w a) (hb : wrdP w b) : CallP F lo 109 [.int .i64 w, .int .i64 a, .int .i64 b] Z fun r _ => ∃ x, r = .int .i64 x ∧ x % 2 ^ w.toNat = doW 6 w a b := by
  have hp := pow_w hw.1 hw.2
  have hA := ha
  have hB := hb
  obtain ⟨ha1, ha2⟩ := ha
  obtain ⟨hb1, hb2⟩ := hb
  have hw1 := hw.1
  have hw2 := hw.2
  refine FnP (fn := c109) rfl rfl rfl ?_
  (refine W_seq ?_; (refine W_rgn ?_; ((refine Ra rfl (X_mv rfl ?_)) <;> (refine R_nil ?_))) <;> ((refine thenQ_nrm ?_; (refine W_seq ?_; (refine W_seq ?_; (refine W_rgn ?_; ((refine Ra rfl (X_mv rfl ?_)) <;> (refine Ra rfl (X_eql rfl rfl (fun _ => ?_) (fun _ => ?_))) <;> (refine R_nil ?_))) <;> ((refine thenQ_nrm ?_; (refine W_cond rfl (fun ht => ?_) (fun ht => ?_) <;> (first | exact absurd ht (by decide) | (refine W_seq ?_; (refine W_rgn ?_; ((refine Ra rfl (X_mv rfl ?_)) <;> (refine Ra rfl (X_mv rfl ?_)) <;> (refine R_nil ?_))) <;> ((refine thenQ_nrm ?_; (refine W_ret ?_)))) | (refine W_skip ?_)))))) <;> (first | refine thenQ_ret ?_ | (refine thenQ_nrm ?_; (refine W_seq ?_; (refine W_rgn ?_; ((refine Ra rfl (X_mv rfl ?_)) <;> (refine Ra rfl (X_mv rfl ?_)) <;> (refine Ra rfl (X_remI rfl rfl (by omega) (by omega) ?_)) <;> (refine Ra rfl (X_mv rfl ?_)) <;> (refine R_nil ?_))) <;> ((refine thenQ_nrm ?_; (refine W_ret ?_))))))))))
  <;> (refine fnP_ret (Res.tmp rfl Res.nil) ?_)
  all_goals
    have hd := doW_wrd (op := 6) hw hA hB
    refine ⟨_, rfl, ?_⟩
    first
      | rfl
      | (have e : doW 6 w a b = if b = 0 then 2 ^ w.toNat - 1 else a / b := rfl
         rw [e] at hd ⊢
         repeat (first | rw [if_pos (by assumption)] at hd ⊢ | rw [if_neg (by omega)] at hd ⊢)
         exact Int.emod_eq_of_lt hd.1 hd.2)
      | (have e : doW 6 w a b = if b = 0 then a else a % b := rfl
         rw [e] at hd ⊢
         repeat (first | rw [if_pos (by assumption)] at hd ⊢ | rw [if_neg (by omega)] at hd ⊢)
         exact Int.emod_eq_of_lt hd.1 hd.2)
      | exact Int.emod_eq_of_lt hd.1 hd.2
      | (have e : doW 6 w a b = if w ≤ b then 0 else a * 2 ^ b.toNat % 2 ^ w.toNat := rfl
         rw [e]
         split <;> simp)
      | (have e : doW 6 w a b = if w ≤ b then 0 else a / 2 ^ b.toNat := rfl
         rw [e] at hd ⊢
         split at hd <;> simp_all
         exact Int.emod_eq_of_lt hd.1 hd.2)
      | (have e : doW 6 w a b = if a = b then 1 else 0 := rfl
         rw [e]
         (first | rw [if_pos rfl, if_pos (by assumption)] | rw [if_neg (by decide), if_neg (by omega)])
         exact Int.emod_eq_of_lt (by decide) (by omega))
      | (have e : doW 6 w a b = if a < b then 1 else 0 := rfl
         rw [e]
         (first | rw [if_pos rfl, if_pos (by assumption)] | rw [if_neg (by decide), if_neg (by omega)])
         exact Int.emod_eq_of_lt (by decide) (by omega))
      | skip
set_option maxHeartbeats 4000000 in
theorem raw7_ok (lo : Nat) {Z : Vw} (w a b : Int) (hw : widP w) (ha : wrdP w a) (hb : wrdP w b) : CallP F lo 110 [.int .i64 w, .int .i64 a, .int .i64 b] Z fun r _ => ∃ x, r = .int .i64 x ∧ x % 2 ^ w.toNat = doW 7 w a b := by
  have hp := pow_w hw.1 hw.2
  have hA := ha
  have hB := hb
  obtain ⟨ha1, ha2⟩ := ha
  obtain ⟨hb1, hb2⟩ := hb
  have hw1 := hw.1
  have hw2 := hw.2
  refine FnP (fn := c110) rfl rfl rfl ?_
  (refine W_seq ?_; (refine W_rgn ?_; ((refine Ra rfl (X_mv rfl ?_)) <;> (refine R_nil ?_))) <;> ((refine thenQ_nrm ?_; (refine W_seq ?_; (refine W_rgn ?_; ((refine Ra rfl (X_mv rfl ?_)) <;> (refine Ra rfl (X_mv rfl ?_)) <;> (refine Ra rfl (X_andI rfl rfl (by omega) (by omega) (by omega) (by omega) ?_)) <;> (refine Ra rfl (X_mv rfl ?_)) <;> (refine R_nil ?_))) <;> ((refine thenQ_nrm ?_; (refine W_ret ?_)))))))
  <;> (refine fnP_ret (Res.tmp rfl Res.nil) ?_)
  all_goals
    have hd := doW_wrd (op := 7) hw hA hB
    refine ⟨_, rfl, ?_⟩
    first
      | rfl
      | (have e : doW 7 w a b = if b = 0 then 2 ^ w.toNat - 1 else a / b := rfl
         rw [e] at hd ⊢
         repeat (first | rw [if_pos (by assumption)] at hd ⊢ | rw [if_neg (by omega)] at hd ⊢)
         exact Int.emod_eq_of_lt hd.1 hd.2)
      | (have e : doW 7 w a b = if b = 0 then a else a % b := rfl
         rw [e] at hd ⊢
         repeat (first | rw [if_pos (by assumption)] at hd ⊢ | rw [if_neg (by omega)] at hd ⊢)
         exact Int.emod_eq_of_lt hd.1 hd.2)
      | exact Int.emod_eq_of_lt hd.1 hd.2
      | (have e : doW 7 w a b = if w ≤ b then 0 else a * 2 ^ b.toNat % 2 ^ w.toNat := rfl
         rw [e]
         split <;> simp)
      | (have e : doW 7 w a b = if w ≤ b then 0 else a / 2 ^ b.toNat := rfl
         rw [e] at hd ⊢
         split at hd <;> simp_all
         exact Int.emod_eq_of_lt hd.1 hd.2)
      | (have e : doW 7 w a b = if a = b then 1 else 0 := rfl
         rw [e]
         (first | rw [if_pos rfl, if_pos (by assumption)] | rw [if_neg (by decide), if_neg (by omega)])
         exact Int.emod_eq_of_lt (by decide) (by omega))
      | (have e : doW 7 w a b = if a < b then 1 else 0 := rfl
         rw [e]
         (first | rw [if_pos rfl, if_pos (by assumption)] | rw [if_neg (by decide), if_neg (by omega)])
         exact Int.emod_eq_of_lt (by decide) (by omega))
      | skip
set_option maxHeartbeats 4000000 in
theorem raw8_ok (lo : Nat) {Z : Vw} (w a b : Int) (hw : widP w) (ha : wrdP w a) (hb : wrdP w b) : CallP F lo 111 [.int .i64 w, .int .i64 a, .int .i64 b] Z fun r _ => ∃ x, r = .int .i64 x ∧ x % 2 ^ w.toNat = doW 8 w a b := by
  have hp := pow_w hw.1 hw.2
  have hA := ha
  have hB := hb
  obtain ⟨ha1, ha2⟩ := ha
  obtain ⟨hb1, hb2⟩ := hb
  have hw1 := hw.1
  have hw2 := hw.2
  refine FnP (fn := c111) rfl rfl rfl ?_
  (refine W_seq ?_; (refine W_rgn ?_; ((refine Ra rfl (X_mv rfl ?_)) <;> (refine R_nil ?_))) <;> ((refine thenQ_nrm ?_; (refine W_seq ?_; (refine W_rgn ?_; ((refine Ra rfl (X_mv rfl ?_)) <;> (refine Ra rfl (X_mv rfl ?_)) <;> (refine Ra rfl (X_orI rfl rfl (by omega) (by omega) (by omega) (by omega) ?_)) <;> (refine Ra rfl (X_mv rfl ?_)) <;> (refine R_nil ?_))) <;> ((refine thenQ_nrm ?_; (refine W_ret ?_)))))))
  <;> (refine fnP_ret (Res.tmp rfl Res.nil) ?_)
  all_goals
    have hd := doW_wrd (op := 8) hw hA hB
    refine ⟨_, rfl, ?_⟩
    first
      | rfl
      | (have e : doW 8 w a b = if b = 0 then 2 ^ w.toNat - 1 else a / b := rfl
         rw [e] at hd ⊢
         repeat (first | rw [if_pos (by assumption)] at hd ⊢ | rw [if_neg (by omega)] at hd ⊢)
         exact Int.emod_eq_of_lt hd.1 hd.2)
      | (have e : doW 8 w a b = if b = 0 then a else a % b := rfl
         rw [e] at hd ⊢
         repeat (first | rw [if_pos (by assumption)] at hd ⊢ | rw [if_neg (by omega)] at hd ⊢)
         exact Int.emod_eq_of_lt hd.1 hd.2)
      | exact Int.emod_eq_of_lt hd.1 hd.2
      | (have e : doW 8 w a b = if w ≤ b then 0 else a * 2 ^ b.toNat % 2 ^ w.toNat := rfl
         rw [e]
         split <;> simp)
      | (have e : doW 8 w a b = if w ≤ b then 0 else a / 2 ^ b.toNat := rfl
         rw [e] at hd ⊢
         split at hd <;> simp_all
         exact Int.emod_eq_of_lt hd.1 hd.2)
      | (have e : doW 8 w a b = if a = b then 1 else 0 := rfl
         rw [e]
         (first | rw [if_pos rfl, if_pos (by assumption)] | rw [if_neg (by decide), if_neg (by omega)])
         exact Int.emod_eq_of_lt (by decide) (by omega))
      | (have e : doW 8 w a b = if a < b then 1 else 0 := rfl
         rw [e]
         (first | rw [if_pos rfl, if_pos (by assumption)] | rw [if_neg (by decide), if_neg (by omega)])
         exact Int.emod_eq_of_lt (by decide) (by omega))
      | skip
set_option maxHeartbeats 4000000 in
theorem raw9_ok (lo : Nat) {Z : Vw} (w a b : Int) (hw : widP w) (ha : wrdP w a) (hb : wrdP w b) : CallP F lo 112 [.int .i64 w, .int .i64 a, .int .i64 b] Z fun r _ => ∃ x, r = .int .i64 x ∧ x % 2 ^ w.toNat = doW 9 w a b := by
  have hp := pow_w hw.1 hw.2
  have hA := ha
  have hB := hb
  obtain ⟨ha1, ha2⟩ := ha
  obtain ⟨hb1, hb2⟩ := hb
  have hw1 := hw.1
  have hw2 := hw.2
  refine FnP (fn := c112) rfl rfl rfl ?_
  (refine W_seq ?_; (refine W_rgn ?_; ((refine Ra rfl (X_mv rfl ?_)) <;> (refine R_nil ?_))) <;> ((refine thenQ_nrm ?_; (refine W_seq ?_; (refine W_rgn ?_; ((refine Ra rfl (X_mv rfl ?_)) <;> (refine Ra rfl (X_mv rfl ?_)) <;> (refine Ra rfl (X_xorI rfl rfl (by omega) (by omega) (by omega) (by omega) ?_)) <;> (refine Ra rfl (X_mv rfl ?_)) <;> (refine R_nil ?_))) <;> ((refine thenQ_nrm ?_; (refine W_ret ?_)))))))
  <;> (refine fnP_ret (Res.tmp rfl Res.nil) ?_)
  all_goals
    have hd := doW_wrd (op := 9) hw hA hB
    refine ⟨_, rfl, ?_⟩
    first
      | rfl
      | (have e : doW 9 w a b = if b = 0 then 2 ^ w.toNat - 1 else a / b := rfl
         rw [e] at hd ⊢
         repeat (first | rw [if_pos (by assumption)] at hd ⊢ | rw [if_neg (by omega)] at hd ⊢)
         exact Int.emod_eq_of_lt hd.1 hd.2)
      | (have e : doW 9 w a b = if b = 0 then a else a % b := rfl
         rw [e] at hd ⊢
         repeat (first | rw [if_pos (by assumption)] at hd ⊢ | rw [if_neg (by omega)] at hd ⊢)
         exact Int.emod_eq_of_lt hd.1 hd.2)
      | exact Int.emod_eq_of_lt hd.1 hd.2
      | (have e : doW 9 w a b = if w ≤ b then 0 else a * 2 ^ b.toNat % 2 ^ w.toNat := rfl
         rw [e]
         split <;> simp)
      | (have e : doW 9 w a b = if w ≤ b then 0 else a / 2 ^ b.toNat := rfl
         rw [e] at hd ⊢
         split at hd <;> simp_all
         exact Int.emod_eq_of_lt hd.1 hd.2)
      | (have e : doW 9 w a b = if a = b then 1 else 0 := rfl
         rw [e]
         (first | rw [if_pos rfl, if_pos (by assumption)] | rw [if_neg (by decide), if_neg (by omega)])
         exact Int.emod_eq_of_lt (by decide) (by omega))
      | (have e : doW 9 w a b = if a < b then 1 else 0 := rfl
         rw [e]
         (first | rw [if_pos rfl, if_pos (by assumption)] | rw [if_neg (by decide), if_neg (by omega)])
         exact Int.emod_eq_of_lt (by decide) (by omega))
      | skip
set_option maxHeartbeats 4000000 in
theorem raw10_ok (lo : Nat) {Z : Vw} (w a b : Int) (hw : widP w) (ha : wrdP w a) (hb : wrdP w b) : CallP F lo 113 [.int .i64 w, .int .i64 a, .int .i64 b] Z fun r _ => ∃ x, r = .int .i64 x ∧ x % 2 ^ w.toNat = doW 10 w a b := by
  have hp := pow_w hw.1 hw.2
  have hA := ha
  have hB := hb
  obtain ⟨ha1, ha2⟩ := ha
  obtain ⟨hb1, hb2⟩ := hb
  have hw1 := hw.1
  have hw2 := hw.2
  have hs0 : 0 ≤ a * 2 ^ b.toNat := Int.mul_nonneg ha1 (Int.le_of_lt (pow_pos_ _))
  have hs1 : b < w → a * 2 ^ b.toNat ≤ 256 * 256 := fun h => Int.mul_le_mul (by omega) (by have := pow_le_ (m := b.toNat) (n := 8) (by omega); omega) (Int.le_of_lt (pow_pos_ _)) (by decide)
  have hs2 := pow_pos_ b.toNat
  refine FnP (fn := c113) rfl rfl rfl ?_
  (refine W_seq ?_; (refine W_rgn ?_; ((refine Ra rfl (X_mv rfl ?_)) <;> (refine R_nil ?_))) <;> ((refine thenQ_nrm ?_; (refine W_seq ?_; (refine W_rgn ?_; ((refine Ra rfl (X_mv rfl ?_)) <;> (refine Ra rfl (X_mv rfl ?_)) <;> (refine Ra rfl (X_mv rfl ?_)) <;> (refine Ra rfl (xP (shifted_ok lo _ _ _ _ hw hA hB) rfl (fun _ Z10 hz10 hq => ?_)); (subst hq)) <;> (refine Ra rfl (X_mv rfl ?_)) <;> (refine R_nil ?_))) <;> ((refine thenQ_nrm ?_; (refine W_ret ?_)))))))
  <;> (refine fnP_ret (Res.tmp rfl Res.nil) ?_)
  all_goals
    have hd := doW_wrd (op := 10) hw hA hB
    refine ⟨_, rfl, ?_⟩
    first
      | rfl
      | (have e : doW 10 w a b = if b = 0 then 2 ^ w.toNat - 1 else a / b := rfl
         rw [e] at hd ⊢
         repeat (first | rw [if_pos (by assumption)] at hd ⊢ | rw [if_neg (by omega)] at hd ⊢)
         exact Int.emod_eq_of_lt hd.1 hd.2)
      | (have e : doW 10 w a b = if b = 0 then a else a % b := rfl
         rw [e] at hd ⊢
         repeat (first | rw [if_pos (by assumption)] at hd ⊢ | rw [if_neg (by omega)] at hd ⊢)
         exact Int.emod_eq_of_lt hd.1 hd.2)
      | exact Int.emod_eq_of_lt hd.1 hd.2
      | (have e : doW 10 w a b = if w ≤ b then 0 else a * 2 ^ b.toNat % 2 ^ w.toNat := rfl
         rw [e]
         split <;> simp)
      | (have e : doW 10 w a b = if w ≤ b then 0 else a / 2 ^ b.toNat := rfl
         rw [e] at hd ⊢
         split at hd <;> simp_all
         exact Int.emod_eq_of_lt hd.1 hd.2)
      | (have e : doW 10 w a b = if a = b then 1 else 0 := rfl
         rw [e]
         (first | rw [if_pos rfl, if_pos (by assumption)] | rw [if_neg (by decide), if_neg (by omega)])
         exact Int.emod_eq_of_lt (by decide) (by omega))
      | (have e : doW 10 w a b = if a < b then 1 else 0 := rfl
         rw [e]
         (first | rw [if_pos rfl, if_pos (by assumption)] | rw [if_neg (by decide), if_neg (by omega)])
         exact Int.emod_eq_of_lt (by decide) (by omega))
      | skip
set_option maxHeartbeats 4000000 in
theorem raw11_ok (lo : Nat) {Z : Vw} (w a b : Int) (hw : widP w) (ha : wrdP w a) (hb : wrdP w b) : CallP F lo 115 [.int .i64 w, .int .i64 a, .int .i64 b] Z fun r _ => ∃ x, r = .int .i64 x ∧ x % 2 ^ w.toNat = doW 11 w a b := by
  have hp := pow_w hw.1 hw.2
  have hA := ha
  have hB := hb
  obtain ⟨ha1, ha2⟩ := ha
  obtain ⟨hb1, hb2⟩ := hb
  have hw1 := hw.1
  have hw2 := hw.2
  have hs0 : 0 ≤ a * 2 ^ b.toNat := Int.mul_nonneg ha1 (Int.le_of_lt (pow_pos_ _))
  have hs1 : b < w → a * 2 ^ b.toNat ≤ 256 * 256 := fun h => Int.mul_le_mul (by omega) (by have := pow_le_ (m := b.toNat) (n := 8) (by omega); omega) (Int.le_of_lt (pow_pos_ _)) (by decide)
  have hs2 := pow_pos_ b.toNat
  refine FnP (fn := c115) rfl rfl rfl ?_
  (refine W_seq ?_; (refine W_rgn ?_; ((refine Ra rfl (X_mv rfl ?_)) <;> (refine R_nil ?_))) <;> ((refine thenQ_nrm ?_; (refine W_seq ?_; (refine W_rgn ?_; ((refine Ra rfl (X_mv rfl ?_)) <;> (refine Ra rfl (X_mv rfl ?_)) <;> (refine Ra rfl (X_mv rfl ?_)) <;> (refine Ra rfl (xP (shifted_ok lo _ _ _ _ hw hA hB) rfl (fun _ Z10 hz10 hq => ?_)); (subst hq)) <;> (refine Ra rfl (X_mv rfl ?_)) <;> (refine R_nil ?_))) <;> ((refine thenQ_nrm ?_; (refine W_ret ?_)))))))
  <;> (refine fnP_ret (Res.tmp rfl Res.nil) ?_)
  all_goals
    have hd := doW_wrd (op := 11) hw hA hB
    refine ⟨_, rfl, ?_⟩
    first
      | rfl
      | (have e : doW 11 w a b = if b = 0 then 2 ^ w.toNat - 1 else a / b := rfl
         rw [e] at hd ⊢
         repeat (first | rw [if_pos (by assumption)] at hd ⊢ | rw [if_neg (by omega)] at hd ⊢)
         exact Int.emod_eq_of_lt hd.1 hd.2)
      | (have e : doW 11 w a b = if b = 0 then a else a % b := rfl
         rw [e] at hd ⊢
         repeat (first | rw [if_pos (by assumption)] at hd ⊢ | rw [if_neg (by omega)] at hd ⊢)
         exact Int.emod_eq_of_lt hd.1 hd.2)
      | exact Int.emod_eq_of_lt hd.1 hd.2
      | (have e : doW 11 w a b = if w ≤ b then 0 else a * 2 ^ b.toNat % 2 ^ w.toNat := rfl
         rw [e]
         split <;> simp)
      | (have e : doW 11 w a b = if w ≤ b then 0 else a / 2 ^ b.toNat := rfl
         rw [e] at hd ⊢
         split at hd <;> simp_all
         exact Int.emod_eq_of_lt hd.1 hd.2)
      | (have e : doW 11 w a b = if a = b then 1 else 0 := rfl
         rw [e]
         (first | rw [if_pos rfl, if_pos (by assumption)] | rw [if_neg (by decide), if_neg (by omega)])
         exact Int.emod_eq_of_lt (by decide) (by omega))
      | (have e : doW 11 w a b = if a < b then 1 else 0 := rfl
         rw [e]
         (first | rw [if_pos rfl, if_pos (by assumption)] | rw [if_neg (by decide), if_neg (by omega)])
         exact Int.emod_eq_of_lt (by decide) (by omega))
      | skip
set_option maxHeartbeats 4000000 in
theorem raw13_ok (lo : Nat) {Z : Vw} (w a b : Int) (hw : widP w) (ha : wrdP w a) (hb : wrdP w b) : CallP F lo 116 [.int .i64 w, .int .i64 a, .int .i64 b] Z fun r _ => ∃ x, r = .int .i64 x ∧ x % 2 ^ w.toNat = doW 13 w a b := by
  have hp := pow_w hw.1 hw.2
  have hA := ha
  have hB := hb
  obtain ⟨ha1, ha2⟩ := ha
  obtain ⟨hb1, hb2⟩ := hb
  have hw1 := hw.1
  have hw2 := hw.2
  refine FnP (fn := c116) rfl rfl rfl ?_
  (refine W_seq ?_; (refine W_rgn ?_; ((refine Ra rfl (X_mv rfl ?_)) <;> (refine R_nil ?_))) <;> ((refine thenQ_nrm ?_; (refine W_seq ?_; (refine W_rgn ?_; ((refine Ra rfl (X_mv rfl ?_)) <;> (refine Ra rfl (X_mv rfl ?_)) <;> (refine Ra rfl (X_eql rfl rfl (fun _ => ?_) (fun _ => ?_))) <;> (refine Ra rfl (xP (truth_ok lo _) rfl (fun _ Z10 hz10 hq => ?_)); (subst hq)) <;> (refine Ra rfl (X_mv rfl ?_)) <;> (refine R_nil ?_))) <;> ((refine thenQ_nrm ?_; (refine W_ret ?_)))))))
  <;> (refine fnP_ret (Res.tmp rfl Res.nil) ?_)
  all_goals
    have hd := doW_wrd (op := 13) hw hA hB
    refine ⟨_, rfl, ?_⟩
    first
      | rfl
      | (have e : doW 13 w a b = if b = 0 then 2 ^ w.toNat - 1 else a / b := rfl
         rw [e] at hd ⊢
         repeat (first | rw [if_pos (by assumption)] at hd ⊢ | rw [if_neg (by omega)] at hd ⊢)
         exact Int.emod_eq_of_lt hd.1 hd.2)
      | (have e : doW 13 w a b = if b = 0 then a else a % b := rfl
         rw [e] at hd ⊢
         repeat (first | rw [if_pos (by assumption)] at hd ⊢ | rw [if_neg (by omega)] at hd ⊢)
         exact Int.emod_eq_of_lt hd.1 hd.2)
      | exact Int.emod_eq_of_lt hd.1 hd.2
      | (have e : doW 13 w a b = if w ≤ b then 0 else a * 2 ^ b.toNat % 2 ^ w.toNat := rfl
         rw [e]
         split <;> simp)
      | (have e : doW 13 w a b = if w ≤ b then 0 else a / 2 ^ b.toNat := rfl
         rw [e] at hd ⊢
         split at hd <;> simp_all
         exact Int.emod_eq_of_lt hd.1 hd.2)
      | (have e : doW 13 w a b = if a = b then 1 else 0 := rfl
         rw [e]
         (first | rw [if_pos rfl, if_pos (by assumption)] | rw [if_neg (by decide), if_neg (by omega)])
         exact Int.emod_eq_of_lt (by decide) (by omega))
      | (have e : doW 13 w a b = if a < b then 1 else 0 := rfl
         rw [e]
         (first | rw [if_pos rfl, if_pos (by assumption)] | rw [if_neg (by decide), if_neg (by omega)])
         exact Int.emod_eq_of_lt (by decide) (by omega))
      | skip
set_option maxHeartbeats 4000000 in
theorem raw14_ok (lo : Nat) {Z : Vw} (w a b : Int) (hw : widP w) (ha : wrdP w a) (hb : wrdP w b) : CallP F lo 118 [.int .i64 w, .int .i64 a, .int .i64 b] Z fun r _ => ∃ x, r = .int .i64 x ∧ x % 2 ^ w.toNat = doW 14 w a b := by
  have hp := pow_w hw.1 hw.2
  have hA := ha
  have hB := hb
  obtain ⟨ha1, ha2⟩ := ha
  obtain ⟨hb1, hb2⟩ := hb
  have hw1 := hw.1
  have hw2 := hw.2
  refine FnP (fn := c118) rfl rfl rfl ?_
  (refine W_seq ?_; (refine W_rgn ?_; ((refine Ra rfl (X_mv rfl ?_)) <;> (refine R_nil ?_))) <;> ((refine thenQ_nrm ?_; (refine W_seq ?_; (refine W_rgn ?_; ((refine Ra rfl (X_mv rfl ?_)) <;> (refine Ra rfl (X_mv rfl ?_)) <;> (refine Ra rfl (X_lss rfl rfl (fun _ => ?_) (fun _ => ?_))) <;> (refine Ra rfl (xP (truth_ok lo _) rfl (fun _ Z10 hz10 hq => ?_)); (subst hq)) <;> (refine Ra rfl (X_mv rfl ?_)) <;> (refine R_nil ?_))) <;> ((refine thenQ_nrm ?_; (refine W_ret ?_)))))))
  <;> (refine fnP_ret (Res.tmp rfl Res.nil) ?_)
  all_goals
    have hd := doW_wrd (op := 14) hw hA hB
    refine ⟨_, rfl, ?_⟩
    first
      | rfl
      | (have e : doW 14 w a b = if b = 0 then 2 ^ w.toNat - 1 else a / b := rfl
         rw [e] at hd ⊢
         repeat (first | rw [if_pos (by assumption)] at hd ⊢ | rw [if_neg (by omega)] at hd ⊢)
         exact Int.emod_eq_of_lt hd.1 hd.2)
      | (have e : doW 14 w a b = if b = 0 then a else a % b := rfl
         rw [e] at hd ⊢
         repeat (first | rw [if_pos (by assumption)] at hd ⊢ | rw [if_neg (by omega)] at hd ⊢)
         exact Int.emod_eq_of_lt hd.1 hd.2)
      | exact Int.emod_eq_of_lt hd.1 hd.2
      | (have e : doW 14 w a b = if w ≤ b then 0 else a * 2 ^ b.toNat % 2 ^ w.toNat := rfl
         rw [e]
         split <;> simp)
      | (have e : doW 14 w a b = if w ≤ b then 0 else a / 2 ^ b.toNat := rfl
         rw [e] at hd ⊢
         split at hd <;> simp_all
         exact Int.emod_eq_of_lt hd.1 hd.2)
      | (have e : doW 14 w a b = if a = b then 1 else 0 := rfl
         rw [e]
         (first | rw [if_pos rfl, if_pos (by assumption)] | rw [if_neg (by decide), if_neg (by omega)])
         exact Int.emod_eq_of_lt (by decide) (by omega))
      | (have e : doW 14 w a b = if a < b then 1 else 0 := rfl
         rw [e]
         (first | rw [if_pos rfl, if_pos (by assumption)] | rw [if_neg (by decide), if_neg (by omega)])
         exact Int.emod_eq_of_lt (by decide) (by omega))
      | skip
def opK (op : Int) : Nat := if op = 2 then 105 else if op = 3 then 106 else if op = 4 then 107 else if op = 5 then 108 else if op = 6 then 109 else if op = 7 then 110 else if op = 8 then 111 else if op = 9 then 112 else if op = 10 then 113 else if op = 11 then 115 else if op = 13 then 116 else if op = 14 then 118 else 0
theorem call_op (lo : Nat) {Z : Vw} {op : Int} (w a b : Int) (ho : IsOp op) (hw : widP w) (ha : wrdP w a) (hb : wrdP w b) : CallP F lo (opK op) [.int .i64 w, .int .i64 a, .int .i64 b] Z fun r _ => ∃ x, r = .int .i64 x ∧ x % 2 ^ w.toNat = doW op w a b := by
  rcases (by unfold IsOp at ho; omega : op = 2 ∨ op = 3 ∨ op = 4 ∨ op = 5 ∨ op = 6 ∨ op = 7 ∨ op = 8 ∨ op = 9 ∨ op = 10 ∨ op = 11 ∨ op = 13 ∨ op = 14) with rfl | rfl | rfl | rfl | rfl | rfl | rfl | rfl | rfl | rfl | rfl | rfl
  · exact raw2_ok lo w a b hw ha hb
  · exact raw3_ok lo w a b hw ha hb
  · exact raw4_ok lo w a b hw ha hb
  · exact raw5_ok lo w a b hw ha hb
  · exact raw6_ok lo w a b hw ha hb
  · exact raw7_ok lo w a b hw ha hb
  · exact raw8_ok lo w a b hw ha hb
  · exact raw9_ok lo w a b hw ha hb
  · exact raw10_ok lo w a b hw ha hb
  · exact raw11_ok lo w a b hw ha hb
  · exact raw13_ok lo w a b hw ha hb
  · exact raw14_ok lo w a b hw ha hb
set_option maxHeartbeats 4000000 in
theorem does_ok (lo : Nat) {Z : Vw} {op : Int} (ho : IsOp op) : CallP F lo 97 [.int .i64 op] Z fun r _ => r = .func (.func (opK op)) ⟨[]⟩ ⟨[]⟩ := by
  rcases (by unfold IsOp at ho; omega : op = 2 ∨ op = 3 ∨ op = 4 ∨ op = 5 ∨ op = 6 ∨ op = 7 ∨ op = 8 ∨ op = 9 ∨ op = 10 ∨ op = 11 ∨ op = 13 ∨ op = 14) with rfl | rfl | rfl | rfl | rfl | rfl | rfl | rfl | rfl | rfl | rfl | rfl
  all_goals
    refine FnP (fn := c97) rfl rfl rfl ?_
    (refine W_seq ?_; (refine W_rgn ?_; ((refine Ra rfl (X_mv rfl ?_)) <;> (refine R_nil ?_))) <;> ((refine thenQ_nrm ?_; (refine W_seq ?_; (refine W_rgn ?_; ((refine Ra rfl (X_mkmap (fun v3 => ?_))) <;> (refine Rn (xPut rfl rfl rfl rfl rfl ?_)) <;> (refine Rn (xPut rfl rfl rfl rfl rfl ?_)) <;> (refine Rn (xPut rfl rfl rfl rfl rfl ?_)) <;> (refine Rn (xPut rfl rfl rfl rfl rfl ?_)) <;> (refine Rn (xPut rfl rfl rfl rfl rfl ?_)) <;> (refine Rn (xPut rfl rfl rfl rfl rfl ?_)) <;> (refine Rn (xPut rfl rfl rfl rfl rfl ?_)) <;> (refine Rn (xPut rfl rfl rfl rfl rfl ?_)) <;> (refine Rn (xPut rfl rfl rfl rfl rfl ?_)) <;> (refine Rn (xPut rfl rfl rfl rfl rfl ?_)) <;> (refine Rn (xPut rfl rfl rfl rfl rfl ?_)) <;> (refine Rn (xPut rfl rfl rfl rfl rfl ?_)) <;> (refine Ra rfl (X_mv rfl ?_)) <;> (refine Ra rfl (X_mv rfl ?_)) <;> (refine Ra rfl (xLook rfl rfl rfl rfl ?_)) <;> (refine Ra rfl (X_mv rfl ?_)) <;> (refine R_nil ?_))) <;> ((refine thenQ_nrm ?_; (refine W_ret ?_)))))))
    <;> (refine fnP_ret (Res.tmp rfl Res.nil) ?_)
    all_goals rfl
  
set_option maxHeartbeats 4000000 in
theorem Do_ok (lo : Nat) {Z : Vw} (op w a b : Int) (ho : IsOp op) (hw : widP w) (ha : wrdP w a) (hb : wrdP w b) : CallP F lo 81 [.int .i64 op, .int .i64 w, .int .i64 a, .int .i64 b] Z fun r _ => r = .tuple ⟨[.int .i64 (doW op w a b), .int .i64 0]⟩ := by
  have hp := pow_w hw.1 hw.2
  have hA := ha
  have hB := hb
  obtain ⟨ha1, ha2⟩ := ha
  obtain ⟨hb1, hb2⟩ := hb
  have hw1 := hw.1
  have hw2 := hw.2
  refine FnP (fn := c81) rfl rfl rfl ?_
  (refine W_seq ?_; (refine W_rgn ?_; ((refine Ra rfl (X_mv rfl ?_)) <;> (refine Ra rfl (X_mv rfl ?_)) <;> (refine R_nil ?_))) <;> ((refine thenQ_nrm ?_; (refine W_seq ?_; (refine W_seq ?_; (refine W_rgn ?_; ((refine Ra rfl (X_mv rfl ?_)) <;> (refine Ra rfl (X_mv rfl ?_)) <;> (refine Ra rfl (X_mv rfl ?_)) <;> (refine Ra rfl (X_bsliceC (pCons rfl (pCons rfl Parts.nil)) rfl rfl rfl (fun v14 => ?_))) <;> (refine Ra rfl (X_upd (uA v14 fun Z15a hz15a hf15a => Upd.done (xP (ok_ok lo w (l := [a, b]) (hl := ⟨hf15a⟩) (by simp)) rfl (fun _ Z15 hz15 hq => ?_)))); (obtain ⟨b15, rfl, hb15⟩ := hq; rw [show b15 = true from hb15.2 ⟨hw, fun i hi => by
        have hi : i < 2 := hi
        match i, hi with
        | 0, _ => exact hA
        | 1, _ => exact hB⟩])) <;> (refine Ra rfl (X_not rfl ?_)) <;> (refine R_nil ?_))) <;> ((refine thenQ_nrm ?_; (refine W_cond rfl (fun ht => ?_) (fun ht => ?_) <;> (first | exact absurd ht (by decide) | (refine W_skip ?_)))))) <;> ((refine thenQ_nrm ?_; (refine W_seq ?_; (refine W_rgn ?_; ((refine Ra rfl (X_mv rfl ?_)) <;> (refine Ra rfl (xP (does_ok lo ho) rfl (fun _ Z18 hz18 hq => ?_)); (subst hq)) <;> (refine Ra rfl (X_mv rfl ?_)) <;> (refine R_nil ?_))) <;> ((refine thenQ_nrm ?_; (refine W_seq ?_; (refine W_seq ?_; (refine W_rgn ?_; ((refine Ra rfl (X_mv rfl ?_)) <;> (refine Ra rfl (X_eq rfl rfl rfl ?_)) <;> (refine R_nil ?_))) <;> ((refine thenQ_nrm ?_; (refine W_cond rfl (fun ht => ?_) (fun ht => ?_) <;> (first | exact absurd ht (by decide) | (refine W_skip ?_)))))) <;> ((refine thenQ_nrm ?_; (refine W_seq ?_; (refine W_rgn ?_; ((refine Ra rfl (X_mv rfl ?_)) <;> (refine Ra rfl (X_mv rfl ?_)) <;> (refine Ra rfl (X_mv rfl ?_)) <;> (refine Ra rfl (X_mv rfl ?_)) <;> (refine Ra rfl (xDP rfl rfl (call_op lo w a b ho hw hA hB) (fun _ Z25 hz25 hq => ?_)); (obtain ⟨x, rfl, hx⟩ := hq)) <;> (refine Ra rfl (X_mv rfl ?_)) <;> (refine Ra rfl (xP (top_ok lo _ (by omega) (by omega)) rfl (fun _ Z27 hz27 hq => ?_)); (subst hq)) <;> (refine Ra rfl (X_andM rfl rfl (by omega) ?_)) <;> (refine Ra rfl (X_mv rfl ?_)) <;> (refine Ra rfl (X_mv rfl ?_)) <;> (refine R_nil ?_))) <;> ((refine thenQ_nrm ?_; (refine W_ret ?_))))))))))))))))
  <;> (refine fnP_ret (Res.tmp rfl (Res.tmp rfl Res.nil)) ?_)
  all_goals first
    | (simp only [tupled]; rw [hx]; done)
    | skip
set_option maxHeartbeats 4000000 in
theorem Not_ok (lo : Nat) {Z : Vw} (w a : Int) (hw : widP w) (ha : wrdP w a) : CallP F lo 80 [.int .i64 w, .int .i64 a] Z fun r _ => r = .tuple ⟨[.int .i64 (2 ^ w.toNat - 1 - a), .int .i64 0]⟩ := by
  have hp := pow_w hw.1 hw.2
  have hA := ha
  obtain ⟨ha1, ha2⟩ := ha
  have hw1 := hw.1
  have hw2 := hw.2
  refine FnP (fn := c80) rfl rfl rfl ?_
  (refine W_seq ?_; (refine W_rgn ?_; ((refine Ra rfl (X_mv rfl ?_)) <;> (refine Ra rfl (X_mv rfl ?_)) <;> (refine R_nil ?_))) <;> ((refine thenQ_nrm ?_; (refine W_seq ?_; (refine W_seq ?_; (refine W_rgn ?_; ((refine Ra rfl (X_mv rfl ?_)) <;> (refine Ra rfl (X_mv rfl ?_)) <;> (refine Ra rfl (X_bsliceC (pCons rfl Parts.nil) rfl rfl rfl (fun v8 => ?_))) <;> (refine Ra rfl (X_upd (uA v8 fun Z9a hz9a hf9a => Upd.done (xP (ok_ok lo w (l := [a]) (hl := ⟨hf9a⟩) (by simp)) rfl (fun _ Z9 hz9 hq => ?_)))); (obtain ⟨b9, rfl, hb9⟩ := hq; rw [show b9 = true from hb9.2 ⟨hw, fun i hi => by
        have hi : i < 1 := hi
        match i, hi with
        | 0, _ => exact hA⟩])) <;> (refine Ra rfl (X_not rfl ?_)) <;> (refine R_nil ?_))) <;> ((refine thenQ_nrm ?_; (refine W_cond rfl (fun ht => ?_) (fun ht => ?_) <;> (first | exact absurd ht (by decide) | (refine W_skip ?_)))))) <;> ((refine thenQ_nrm ?_; (refine W_seq ?_; (refine W_rgn ?_; ((refine Ra rfl (X_mv rfl ?_)) <;> (refine Ra rfl (xP (top_ok lo _ (by omega) (by omega)) rfl (fun _ Z12 hz12 hq => ?_)); (subst hq)) <;> (refine Ra rfl (X_mv rfl ?_)) <;> (refine Ra rfl (X_andNotI rfl rfl (by omega) (by omega) (by omega) (by omega) ?_)) <;> (refine Ra rfl (X_mv rfl ?_)) <;> (refine Ra rfl (X_mv rfl ?_)) <;> (refine R_nil ?_))) <;> ((refine thenQ_nrm ?_; (refine W_ret ?_))))))))))
  <;> (refine fnP_ret (Res.tmp rfl (Res.tmp rfl Res.nil)) ?_)
  all_goals
    simp only [tupled]
    rw [toNat_p, not_W hw hA]
end Go.Proofs.Ytlidnionbofkaaa.Hm.V
