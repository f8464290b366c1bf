import Derived.Test.YtlidnionbofkaaaHF
import Derived.Test.YtlidnionbofkaaaA6
import Derived.Test.YtlidnionbofkaaaVR7
namespace Go.Proofs.Ytlidnionbofkaaa.Hm.V
open Go
set_option linter.all false
set_option maxRecDepth 100000
attribute [local irreducible] X XG S R D W Call CallG Upd Rds Rck Sees Res Cel CallP fnQ fnG
section
variable {F : Nat → Option HFn} {lo N : Nat} {A : Tab} {Z : Vw} {O : List Pt} {K : Value → Vw → List Pt → Prop}
theorem bin_addL (a b : List UInt8) (h : a.length + b.length < 4611686018427387904) : bin .add (.string ⟨⟨a⟩⟩) (.string ⟨⟨b⟩⟩) = some (.string ⟨⟨a ++ b⟩⟩) := by
  show pureRun (Op.stringOp .add _ _) = _
  unfold Op.stringOp
  have h2 : ¬ ((((⟨⟨a⟩⟩ : ByteArray).size + (⟨⟨b⟩⟩ : ByteArray).size : Nat) : Int) > IntKind.i64.max) := by
    have : IntKind.i64.max = 9223372036854775807 := by decide
    have e1 : (⟨⟨a⟩⟩ : ByteArray).size = a.length := rfl
    have e2 : (⟨⟨b⟩⟩ : ByteArray).size = b.length := rfl
    omega
  dsimp only
  rw [if_neg h2]
  have e : (⟨⟨a⟩⟩ ++ ⟨⟨b⟩⟩ : ByteArray) = ⟨⟨a ++ b⟩⟩ := by
    apply ByteArray.ext
    rw [ByteArray.data_append]
    simp
  rw [e]
  rfl
theorem xAddL {x y : Operand} {a b : List UInt8} (hx : evA A x = some (.string ⟨⟨a⟩⟩)) (hy : evA A y = some (.string ⟨⟨b⟩⟩)) (h : a.length + b.length < 4611686018427387904) (k : K (.string ⟨⟨a ++ b⟩⟩) Z O) : X F lo (.bin .add x y) N A Z O K := X_bin hx hy (bin_addL a b h) k
end
set_option maxHeartbeats 4000000 in
theorem ExprParses_ok (lo : Nat) {w k : Int} {vv : Value} {vs : List Vr} {s : List UInt8} {lg : Bool} (hvl : vs.length < 9223372036854775808) (hnm : ∀ i, i < vs.length → (vs.getD i default).nm.length < 9223372036854775808) (hsl : s.length < 9223372036854775808) {Z : Vw} (hv : Vrs Z vv vs) : CallP F lo 3 [.int .i64 w, vv, .int .i64 k, .string ⟨⟨s⟩⟩, .bool lg] Z fun r _ => r = .bool true := by
  cases lg
  all_goals
    refine FnP (fn := c3) rfl rfl rfl ?_
    (refine W_seq ?_; (refine W_rgn ?_; ((refine Ra rfl (X_mv rfl ?_)) <;> (refine R_nil ?_))) <;> ((refine thenQ_nrm ?_; (refine W_seq ?_; (refine W_seq ?_; (refine W_rgn ?_; ((refine Ra rfl (X_mv rfl ?_)) <;> (refine Ra rfl (xLenL rfl ?_)) <;> (refine Ra rfl (X_gtr rfl rfl (fun _ => ?_) (fun _ => ?_))) <;> (refine R_nil ?_))) <;> ((refine thenQ_nrm ?_; (refine W_cond rfl (fun ht => ?_) (fun ht => ?_) <;> (first | exact absurd ht (by decide) | (refine W_seq ?_; (refine W_rgn ?_; ((refine Ra rfl (xP (CallP_true (Q := fun v _ => v = .bool true) rfl rfl) rfl (fun _ Z19 hz19 hq => ?_)); (subst hq)) <;> (refine Ra rfl (X_mv rfl ?_)) <;> (refine R_nil ?_))) <;> ((refine thenQ_nrm ?_; (refine W_ret ?_)))) | (refine W_skip ?_)))))) <;> (first | refine thenQ_ret ?_ | (refine thenQ_nrm ?_; (refine W_seq ?_; (refine W_rgn ?_; ((refine Ra rfl (X_mv rfl ?_)) <;> (refine Ra rfl (X_mv rfl ?_)) <;> (refine R_nil ?_))) <;> ((refine thenQ_nrm ?_; (refine W_seq ?_; (refine W_block ?_; ((
        refine wLoop (fun x : List UInt8 => [(11, .string ⟨⟨x⟩⟩)]) (fun _ => []) (fun x _ => x.length ≤ 22000) (fun x => 22001 - x.length) s (by repeat' (first | exact trivial | exact rfl | constructor)) (Upd.done ⟨by omega, Has.nil⟩) ?_
        intro x Z1 hz1 hx) <;> (refine W_seq ?_; (refine W_seq ?_; (refine W_rgn ?_; ((refine Ra rfl (X_mv rfl ?_)) <;> (refine Ra rfl (X_mv rfl ?_)) <;> (first | (refine Rb rfl rfl (X_mv rfl ?_)) | (refine Rc rfl rfl ?_)) <;> (first | (refine Rb rfl rfl (xLenL rfl ?_)) | (refine Rc rfl rfl ?_)) <;> (first | (refine Rb rfl rfl (X_gtr rfl rfl (fun _ => ?_) (fun _ => ?_))) | (refine Rc rfl rfl ?_)) <;> (first | (refine Ra rfl (X_pickT rfl rfl ?_)) | (refine Ra rfl (X_pickF rfl rfl ?_))) <;> (refine Ra rfl (X_mv rfl ?_)) <;> (first | (refine Rb rfl rfl (X_mv rfl ?_)) | (refine Rc rfl rfl ?_)) <;> (first | (refine Rb rfl rfl (xLenL rfl ?_)) | (refine Rc rfl rfl ?_)) <;> (first | (refine Rb rfl rfl (X_leq rfl rfl (fun _ => ?_) (fun _ => ?_))) | (refine Rc rfl rfl ?_)) <;> (first | (refine Ra rfl (X_pickT rfl rfl ?_)) | (refine Ra rfl (X_pickF rfl rfl ?_))) <;> (refine R_nil ?_))) <;> ((refine thenQ_nrm ?_; (refine W_cond rfl (fun ht => ?_) (fun ht => ?_) <;> (first | exact absurd ht (by decide) | (refine W_skip ?_) | (refine W_exit ?_)))))) <;> (first | refine thenQ_ext ?_ | (refine thenQ_nrm ?_; (refine W_block ?_; (refine W_rgn ?_; ((refine Ra rfl (X_mv rfl ?_)) <;> (refine Ra rfl (X_mv rfl ?_)) <;> (refine Ra rfl (xAddL rfl rfl (by omega) ?_)) <;> (refine Ra rfl (X_mv rfl ?_)) <;> (refine R_nil ?_))) <;> (refine blockQ_nrm ?_))))) <;> (first | refine thenQ_ext ?_ | (refine thenQ_nrm ?_; (
          refine Upd.done ⟨x ++ s, ?_, ?_, (by repeat' (first | exact trivial | exact rfl | constructor)), Has.nil⟩
          · rw [List.length_append]; omega
          · rw [List.length_append]; omega)))) <;> (refine blockQ_ext ?_)) <;> ((refine thenQ_nrm ?_; (refine W_seq ?_; (refine W_rgn ?_; ((refine Ra rfl (X_mv rfl ?_)) <;> (refine Ra rfl (X_mv rfl ?_)) <;> (refine Ra rfl (X_mv rfl ?_)) <;> (refine Ra rfl (X_mv rfl ?_)) <;> (refine Ra rfl (xP (RParse_ok lo hvl hnm (by omega) (Fz.le hv ZC.le)) rfl (fun _ Z40 hz40 hq => ?_)); (obtain ⟨⟨o9, n9, c9, v9, ks9⟩, e9, rfl, ht9, hp9⟩ := hq; simp only [Et.cs])) <;> (refine Ra rfl (X_mv rfl ?_)) <;> (refine Ra rfl (X_extract rfl rfl ?_)) <;> (refine Ra rfl (X_extract rfl rfl ?_)) <;> (refine Ra rfl (X_alloc (fun b12 => ?_))) <;> (refine Rn (xSW rfl rfl rfl rfl ?_)) <;> (refine Ra rfl (X_mv rfl ?_)) <;> (refine R_nil ?_))) <;> ((refine thenQ_nrm ?_; (refine W_seq ?_; (refine W_rgn ?_; ((refine Ra rfl (X_mv rfl ?_)) <;> (refine Ra rfl (X_mv rfl ?_)) <;> (refine Ra rfl (X_mv rfl ?_)) <;> (refine Ra rfl (X_mv rfl ?_)) <;> (refine Ra rfl (xP (Parse_ok lo hvl hnm (by omega) (Fz.le hv ZC.le)) rfl (fun _ Z48 hz48 hq => ?_)); (obtain ⟨⟨o8, n8, c8, v8, ks8⟩, e8, rfl, ht8, hp8⟩ := hq; simp only [Et.cs]; obtain ⟨rfl, hee, hsz⟩ := parP_same hp8 hp9)) <;> (refine Ra rfl (X_mv rfl ?_)) <;> (refine Ra rfl (X_extract rfl rfl ?_)) <;> (refine Ra rfl (X_extract rfl rfl ?_)) <;> (refine Ra rfl (X_alloc (fun b14 => ?_))) <;> (refine Rn (xSW rfl rfl rfl rfl ?_)) <;> (refine Ra rfl (X_mv rfl ?_)) <;> (refine R_nil ?_))) <;> ((refine thenQ_nrm ?_; (refine W_seq ?_; (refine W_rgn ?_; ((refine Ra rfl (X_mv rfl ?_)) <;> (refine Ra rfl (X_mv rfl ?_)) <;> (refine Ra rfl (X_eql rfl rfl (fun he53 => ?_) (fun he53 => ?_))) <;> (refine Ra rfl (X_mv rfl ?_)) <;> (first | (refine Rb rfl rfl (X_load (lBA rfl rfl) ?_)) | (refine Rc rfl rfl ?_)) <;> (first | (refine Rb rfl rfl (xP (Fits_ok lo (t := .mk o8 n8 c8 v8 ks8) (Tr.le ZC.le ht8) _ (by omega) (by omega)) rfl (fun _ Z56 hz56 hb56 => ?_)); (obtain ⟨b56, rfl, hb56⟩ := hb56; cases b56 <;> simp only [Bool.false_eq_true, false_iff, true_iff] at hb56)) | (refine Rc rfl rfl ?_)) <;> (first | (refine Ra rfl (X_pickT rfl rfl ?_)) | (refine Ra rfl (X_pickF rfl rfl ?_))) <;> (refine Ra rfl (X_mv rfl ?_)) <;> (first | (refine Rb rfl rfl (X_load (lBA rfl rfl) ?_)) | (refine Rc rfl rfl ?_)) <;> (first | (refine Rb rfl rfl (X_load (lBA rfl rfl) ?_)) | (refine Rc rfl rfl ?_)) <;> (first | (refine Rb rfl rfl (xP (Same_ok lo (.mk o8 n8 c8 v8 ks8) (Tr.le ZC.le ht8) (.mk o9 n9 c9 v9 ks9) (Tr.le ZC.le ht9)) rfl (fun _ Z61 hz61 hb61 => ?_)); (obtain ⟨b61, rfl, hb61⟩ := hb61; cases b61 <;> simp only [Bool.false_eq_true, false_iff, true_iff] at hb61)) | (refine Rc rfl rfl ?_)) <;> (first | (refine Ra rfl (X_pickT rfl rfl ?_)) | (refine Ra rfl (X_pickF rfl rfl ?_))) <;> (refine Ra rfl (X_mv rfl ?_)) <;> (first | (refine Rb rfl rfl (xP (CallP_true (Q := fun v _ => v = .bool true) rfl rfl) rfl (fun _ Z64 hz64 hq => ?_)); (subst hq)) | (refine Rc rfl rfl ?_)) <;> (first | (refine Ra rfl (X_pickT rfl rfl ?_)) | (refine Ra rfl (X_pickF rfl rfl ?_))) <;> (refine Ra rfl (X_mv rfl ?_)) <;> (refine R_nil ?_))) <;> ((refine thenQ_nrm ?_; (refine W_ret ?_))))))))))))))))))))))
    <;> (refine fnP_ret (Res.tmp rfl Res.nil) ?_)
    all_goals
      first
        | rfl
        | exact absurd rfl he53
        | (exfalso; omega)
        | exact absurd hee (by assumption)
end Go.Proofs.Ytlidnionbofkaaa.Hm.V
