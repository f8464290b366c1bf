/- Of layer 15: digits; slices.ContainsFunc with any closure. -/
import Derived.Test.YtgaplmpopgdfbaaHF
import Derived.Test.YtgaplmpopgdfbaaA6
import Derived.Test.YtgaplmpopgdfbaaVK5
import Derived.Test.YtgaplmpopgdfbaaVN0
namespace Go.Proofs.Ytgaplmpopgdfbaa.Hm.V
open Go
set_option linter.all false
set_option maxRecDepth 100000
attribute [local irreducible] X S R D W Call Upd Rds Rck Sees Res Cel CallP fnQ
theorem Has.refl' : ∀ L : List Pt, Has L L
  | [] => Has.nil
  | .box _ _ :: L => .box .here rfl (Has.refl' L)
  | .arr _ _ _ _ :: L => .arr .here rfl (Has.refl' L)
  | .gro _ _ _ :: L => .gro .here rfl (Has.refl' L)
  | .map _ _ :: L => .map .here rfl (Has.refl' L)
theorem Pick.refl' : ∀ L : List Pt, Pick L L []
  | [] => Pick.nil
  | .box _ _ :: L => .box .here rfl (Pick.refl' L)
  | .arr _ _ _ _ :: L => .arr .here rfl (Pick.refl' L)
  | .gro _ _ _ :: L => .gro .here rfl (Pick.refl' L)
  | .map _ _ :: L => .map .here rfl (Pick.refl' L)
instance (priority := low) AppL.rnil {L : List Pt} : AppL L [] L := ⟨List.append_nil _⟩
section
variable {F : Nat → Option HFn} {lo N : Nat} {A : Tab} {Z : Vw} {O : List Pt} {K : Value → Vw → List Pt → Prop} {v : Value} {f : Pt → List Pt} {g : List Pt}
/-- A call that is lent one of the call's own, and changes nothing. -/
theorem x1Gs {args : List Operand} {k e : Nat} {xs : List (List Value)} {vs : List Value} {P : Value → Vw → Prop} [t : AtG O v e xs f g] (hc : Call1 F lo k vs Z (.gro v e xs) fun r Z' o' => o' = .gro v e xs ∧ P r Z') (ha : evsA A args = some vs) (kk : ∀ r Z', ZL Z Z' → P r Z' → K r Z' (.gro v e xs :: g)) : X F lo (.call (.func k) args) N A Z O K :=
  x1G hc ha fun r Z' o' hz hp => by
    obtain ⟨rfl, hp⟩ := hp
    exact kk r Z' hz hp
end
def dig (x : Int) : Prop := x = 0 ∨ x = 1
def digs (l : List Int) : Prop := ∀ x ∈ l, dig x
theorem digs.at {l : List Int} (h : digs l) {i : Nat} (hi : i < l.length) : dig (l.getD i default) := h _ (by rw [getD_eq hi]; exact List.getElem_mem hi)
theorem digs_of {l : List Int} (h : ∀ i, i < l.length → dig (l.getD i default)) : digs l := fun x hx => by
  obtain ⟨i, hi, rfl⟩ := List.getElem_of_mem hx
  have := h i hi
  rwa [getD_eq hi] at this
/-- What a closure tells of the numbers of a list. -/
def Tells (F : Nat → Option HFn) (lo k : Nat) (caps : List Value) (L : List Pt) (Z : Vw) (l : List Int) (bad : Int → Prop) : Prop := ∀ x ∈ l, ∀ Z', Z.le Z' → Call F lo k (.int .i64 x :: caps) Z' L fun r _ O' => O' = L ∧ ∃ q, r = .bool q ∧ (q = true ↔ bad x)
theorem Tells.ofP {F : Nat → Option HFn} {lo k : Nat} {caps : List Value} {Z : Vw} {l : List Int} {bad : Int → Prop} (h : ∀ x ∈ l, ∀ Z', Z.le Z' → CallP F lo k (.int .i64 x :: caps) Z' fun r _ => ∃ q, r = .bool q ∧ (q = true ↔ bad x)) : Tells F lo k caps [] Z l bad := fun x hx Z' hz => by
  have q := h x hx Z' hz
  unfold CallP at q
  exact q
set_option maxHeartbeats 4000000 in
theorem bits1_ok (lo : Nat) {Z : Vw} {x : Int} : CallP F lo 88 [.int .i64 x] Z fun r _ => ∃ q, r = .bool q ∧ (q = true ↔ ¬ dig x) := by
  unfold dig
  refine FnP (fn := c88) rfl rfl rfl ?_
  (refine W_seq ?_; (refine W_rgn ?_; ((refine Ra rfl (X_mv rfl ?_)) <;> (refine R_nil ?_))) <;> (first | refine thenQ_ret ?_ | refine thenQ_ext ?_ | (refine thenQ_nrm ?_; (refine W_seq ?_; (refine W_rgn ?_; ((refine Ra rfl (X_mv rfl ?_)) <;> (first | (refine Ra rfl (X_bin (v := .bool true) rfl rfl rfl ?_)) | (refine Ra rfl (X_bin (v := .bool false) rfl rfl rfl ?_)) | (refine Ra rfl (X_neq rfl rfl (fun _ => ?_) (fun _ => ?_))) | (refine Ra rfl (xNeL rfl rfl (fun _ => ?_) (fun _ => ?_))) | (refine Ra rfl (X_bin rfl rfl rfl ?_))) <;> (refine Ra rfl (X_mv rfl ?_)) <;> (first | (refine Rb rfl rfl (X_mv rfl ?_)) | (refine Rc rfl rfl ?_) | (refine Rd rfl rfl ?_)) <;> (first | (refine Rb rfl rfl (X_bin (v := .bool true) rfl rfl rfl ?_)) | (refine Rb rfl rfl (X_bin (v := .bool false) rfl rfl rfl ?_)) | (refine Rb rfl rfl (X_neq rfl rfl (fun _ => ?_) (fun _ => ?_))) | (refine Rb rfl rfl (xNeL rfl rfl (fun _ => ?_) (fun _ => ?_))) | (refine Rb rfl rfl (X_bin rfl rfl rfl ?_)) | (refine Rc rfl rfl ?_) | (refine Rd rfl rfl ?_)) <;> (first | (refine Ra rfl (X_pickT rfl rfl ?_)) | (refine Ra rfl (X_pickF rfl rfl ?_)) | (refine Ra rfl (X_pick rfl rfl rfl ?_))) <;> (refine Ra rfl (X_mv rfl ?_)) <;> (refine R_nil ?_))) <;> (first | refine thenQ_ret ?_ | refine thenQ_ext ?_ | (refine thenQ_nrm ?_; (refine W_ret ?_)))))))
  <;> (first | refine fnP_ret (Res.tmp rfl Res.nil) ?_ | refine fnP_nrm (Res.tmp rfl Res.nil) ?_)
  all_goals exact ⟨_, rfl, by simp; omega⟩
set_option maxHeartbeats 4000000 in
theorem IndexFunc_ok (lo : Nat) {Z : Vw} {v : Value} {l : List Int} {k : Nat} {caps : List Value} {L : List Pt} {bad : Int → Prop} [hl : FzL Z 1 v (l.map cI)] (hlen : l.length < 9223372036854775808) (hp : Tells F lo k caps L Z l bad) :
    Call F lo 89 [v, .func (.func k) ⟨[]⟩ ⟨caps⟩] Z L fun r _ O' => O' = L ∧ ∃ n : Int, r = .int .i64 n ∧ (0 ≤ n ↔ ∃ j, j < l.length ∧ bad (l.getD j default)) := by
  have hl := hl.out
  refine Fn (fn := c89) rfl rfl rfl ?_
  (refine W_seq ?_; (refine W_rgn ?_; ((refine Ra rfl (X_mv rfl ?_)) <;> (refine R_nil ?_))) <;> (first | refine thenQ_ret ?_ | refine thenQ_ext ?_ | (refine thenQ_nrm ?_; (refine W_seq ?_; (refine W_seq ?_; (refine W_rgn ?_; ((refine Ra rfl (X_mv rfl ?_)) <;> (first | (refine Ra rfl (X_len0 rfl ?_)) | (refine Ra rfl (xLen rfl ?_)) | (refine Ra rfl (xLenX rfl ?_))) <;> (refine Ra rfl (X_mv rfl ?_)) <;> (refine R_nil ?_))) <;> (first | refine thenQ_ret ?_ | refine thenQ_ext ?_ | (refine thenQ_nrm ?_; (refine W_block ?_; ((
      refine wLoop (fun i : Nat => [(8, .int .i64 (i : Nat))]) (fun i => L) (fun i Zi => i ≤ l.length ∧ ∀ j, j < i → ¬ bad (l.getD j default)) (fun i => l.length - i) 0 (by repeat' (first | exact trivial | exact rfl | constructor)) (Upd.done ⟨⟨Nat.zero_le _, fun j hj => absurd hj (by omega)⟩, (Has.refl' L)⟩) ?_
      intro i Z1 hz1 hp2
      obtain ⟨hi, hno⟩ := hp2) <;> (refine W_seq ?_; (refine W_rgn ?_; ((refine Ra rfl (X_lss rfl rfl (fun _ => ?_) (fun _ => ?_))) <;> (refine R_nil ?_))) <;> (first | refine thenQ_ret ?_ | refine thenQ_ext ?_ | (refine thenQ_nrm ?_; (refine W_seq ?_; (refine W_cond rfl (fun ht => ?_) (fun ht => ?_) <;> (first | exact absurd ht (by decide) | (refine W_skip ?_) | (refine W_exit ?_))) <;> (first | refine thenQ_ret ?_ | refine thenQ_ext ?_ | (refine thenQ_nrm ?_; (refine W_seq ?_; (refine W_block ?_; (refine W_seq ?_; (refine W_rgn ?_; ((refine Ra rfl (X_mv rfl ?_)) <;> (refine Ra rfl (X_mv rfl ?_)) <;> (refine R_nil ?_))) <;> (first | refine thenQ_ret ?_ | refine thenQ_ext ?_ | (refine thenQ_nrm ?_; (refine W_seq ?_; (refine W_rgn ?_; ((refine Ra rfl (X_mv rfl ?_)) <;> (refine Ra rfl (X_mv rfl ?_)) <;> (refine Ra rfl (X_mv rfl ?_)) <;> (first | (refine Ra rfl (xIa rfl rfl (by omega) (by omega) ?_)) | (refine Ra rfl (xIaX rfl rfl (by omega) (by assumption) ?_))) <;> (first | (refine Ra rfl (X_load (lB rfl rfl) ?_)) | (refine Ra rfl (X_load (lB rfl (cS_at0 (by omega))) ?_)) | (refine Ra rfl (X_load (lE rfl (by omega) (cS_at1 (by omega))) ?_)) | (refine Ra rfl (X_load (lE0 rfl (by omega) rfl) ?_)) | (refine Ra rfl (X_load (lE rfl (by omega) rfl) ?_)) | (refine Ra rfl (X_load (lX0 rfl (by assumption) rfl) ?_)) | (refine Ra rfl (X_load (lX rfl (by assumption) rfl) ?_))) <;> (refine Ra rfl (xDe (L' := L) rfl rfl (hp (l.getD i default) (by rw [getD_eq (show i < l.length by omega)]; exact List.getElem_mem _) _ ZC.le) (Pick.refl' L) (fun r16 Z16 hz16 hq => ?_)); (obtain ⟨b16, rfl, hb16⟩ := hq; cases b16)) <;> (refine R_nil ?_))) <;> (first | refine thenQ_ret ?_ | refine thenQ_ext ?_ | (refine thenQ_nrm ?_; (refine W_cond rfl (fun ht => ?_) (fun ht => ?_) <;> (first | exact absurd ht (by decide) | (refine W_seq ?_; (refine W_rgn ?_; ((refine Ra rfl (X_mv rfl ?_)) <;> (refine Ra rfl (X_mv rfl ?_)) <;> (refine R_nil ?_))) <;> (first | refine thenQ_ret ?_ | refine thenQ_ext ?_ | (refine thenQ_nrm ?_; (refine W_ret ?_)))) | (refine W_skip ?_))))))))) <;> (first | refine blockQ_nrm ?_ | refine blockQ_ret ?_ | refine blockQ_ext ?_ | refine blockQ_far rfl ?_)) <;> (first | refine thenQ_ret ?_ | refine thenQ_ext ?_ | (refine thenQ_nrm ?_; (refine W_rgn ?_; ((first | (refine Ra rfl (X_addI rfl rfl (by omega) (by omega) ?_)) | (refine Ra rfl (X_bin rfl rfl rfl ?_))) <;> (refine Ra rfl (X_mv rfl ?_)) <;> (refine R_nil ?_)))))))))))) <;> (first | refine thenQ_ret ?_ | refine thenQ_ext ?_ | (refine thenQ_nrm ?_; (
        refine Upd.done ⟨i + 1, by omega, ⟨by omega, fun j hj => ?_⟩, (by repeat' (first | exact trivial | exact rfl | constructor)), (Has.refl' L)⟩
        rcases Nat.lt_or_ge j i with h9 | h9
        · exact hno j h9
        · obtain rfl : j = i := by omega
          exact fun hh => absurd (hb16.2 hh) (by decide))))) <;> (first | refine blockQ_nrm ?_ | refine blockQ_ret ?_ | refine blockQ_ext ?_ | refine blockQ_far rfl ?_))))) <;> (first | refine thenQ_ret ?_ | refine thenQ_ext ?_ | (refine thenQ_nrm ?_; (refine W_seq ?_; (refine W_rgn ?_; ((refine Ra rfl (X_mv rfl ?_)) <;> (refine R_nil ?_))) <;> (first | refine thenQ_ret ?_ | refine thenQ_ext ?_ | (refine thenQ_nrm ?_; (refine W_ret ?_))))))))))
  <;> (first | refine fn_ret (Res.tmp rfl Res.nil) ?_ | refine fn_nrm (Res.tmp rfl Res.nil) ?_)
  · exact Upd.has (Has.refl' L) ⟨rfl, (i : Int), rfl, ⟨fun _ => ⟨i, by omega, hb16.1 rfl⟩, fun _ => by omega⟩⟩
  · exact Upd.has (Has.refl' L) ⟨rfl, -1, rfl, ⟨fun h => absurd h (by decide), fun ⟨j, h1, h2⟩ => absurd h2 (hno j (by omega))⟩⟩
set_option maxHeartbeats 4000000 in
theorem ContainsFunc_ok (lo : Nat) {Z : Vw} {v : Value} {l : List Int} {k : Nat} {caps : List Value} {L : List Pt} {bad : Int → Prop} [hl : FzL Z 1 v (l.map cI)] (hlen : l.length < 9223372036854775808) (hp : Tells F lo k caps L Z l bad) :
    Call F lo 61 [v, .func (.func k) ⟨[]⟩ ⟨caps⟩] Z L fun r _ O' => O' = L ∧ ∃ q, r = .bool q ∧ (q = true ↔ ∃ j, j < l.length ∧ bad (l.getD j default)) := by
  have hl := hl.out
  refine Fn (fn := c61) rfl rfl rfl ?_
  (refine W_seq ?_; (refine W_rgn ?_; ((refine Ra rfl (X_mv rfl ?_)) <;> (refine R_nil ?_))) <;> (first | refine thenQ_ret ?_ | refine thenQ_ext ?_ | (refine thenQ_nrm ?_; (refine W_seq ?_; (refine W_rgn ?_; ((refine Ra rfl (X_mv rfl ?_)) <;> (refine Ra rfl (X_mv rfl ?_)) <;> (refine Ra rfl (xNe (L' := L) (IndexFunc_ok lo hlen hp) rfl (Pick.refl' L) (fun r7 Z7 hz7 hq => ?_)); (obtain ⟨n, rfl, hn⟩ := hq)) <;> (refine Ra rfl (X_geq rfl rfl (fun _ => ?_) (fun _ => ?_))) <;> (refine Ra rfl (X_mv rfl ?_)) <;> (refine R_nil ?_))) <;> (first | refine thenQ_ret ?_ | refine thenQ_ext ?_ | (refine thenQ_nrm ?_; (refine W_ret ?_)))))))
  <;> (first | refine fn_ret (Res.tmp rfl Res.nil) ?_ | refine fn_nrm (Res.tmp rfl Res.nil) ?_)
  · exact Upd.has (Has.refl' L) ⟨rfl, true, rfl, ⟨fun _ => hn.1 (by omega), fun _ => rfl⟩⟩
  · exact Upd.has (Has.refl' L) ⟨rfl, false, rfl, ⟨fun h => absurd h (by decide), fun h => absurd (hn.2 h) (by omega)⟩⟩
theorem not_digs {l : List Int} : (∃ j, j < l.length ∧ ¬ dig (l.getD j default)) ↔ ¬ digs l := by
  constructor
  · rintro ⟨j, h1, h2⟩ h
    exact h2 (h.at h1)
  · intro h
    apply Classical.byContradiction
    intro hn
    exact h (digs_of fun i hi => Classical.byContradiction fun hc => hn ⟨i, hi, hc⟩)
set_option maxHeartbeats 4000000 in
theorem bits_ok (lo : Nat) {Z : Vw} {v : Value} {l : List Int} [hl : IntsL Z v l] (hlen : l.length < 9223372036854775808) : CallP F lo 57 [v] Z fun r _ => ∃ q, r = .bool q ∧ (q = true ↔ digs l) := by
  have hl := hl.out
  refine FnP (fn := c57) rfl rfl rfl ?_
  (refine W_seq ?_; (refine W_rgn ?_; ((refine Ra rfl (X_mv rfl ?_)) <;> (refine R_nil ?_))) <;> (first | refine thenQ_ret ?_ | refine thenQ_ext ?_ | (refine thenQ_nrm ?_; (refine W_seq ?_; (refine W_rgn ?_; ((refine Ra rfl (X_mv rfl ?_)) <;> (refine Ra rfl (xNe (L' := []) (ContainsFunc_ok lo hlen (.ofP fun x _ Z' _ => bits1_ok lo)) rfl Pick.nil (fun r4 Z4 hz4 hq => ?_)); (obtain ⟨q4, rfl, hq4⟩ := hq; rw [not_digs] at hq4)) <;> (refine Ra rfl (X_not rfl ?_)) <;> (refine Ra rfl (X_mv rfl ?_)) <;> (refine R_nil ?_))) <;> (first | refine thenQ_ret ?_ | refine thenQ_ext ?_ | (refine thenQ_nrm ?_; (refine W_ret ?_)))))))
  <;> (first | refine fnP_ret (Res.tmp rfl Res.nil) ?_ | refine fnP_nrm (Res.tmp rfl Res.nil) ?_)
  all_goals exact ⟨_, rfl, by cases q4 <;> simp_all⟩
set_option maxHeartbeats 4000000 in
theorem Digits_ok (lo : Nat) {Z : Vw} {v : Value} {l : List Int} [hl : IntsL Z v l] (hlen : l.length < 9223372036854775808) : CallP F lo 26 [v] Z fun r _ => ∃ q, r = .bool q ∧ (q = true ↔ digs l) := by
  have hl := hl.out
  refine FnP (fn := c26) rfl rfl rfl ?_
  (refine W_seq ?_; (refine W_rgn ?_; ((refine Ra rfl (X_mv rfl ?_)) <;> (refine R_nil ?_))) <;> (first | refine thenQ_ret ?_ | refine thenQ_ext ?_ | (refine thenQ_nrm ?_; (refine W_seq ?_; (refine W_seq ?_; (refine W_rgn ?_; ((refine Ra rfl (X_mv rfl ?_)) <;> (refine R_nil ?_))) <;> (first | refine thenQ_ret ?_ | refine thenQ_ext ?_ | (refine thenQ_nrm ?_; (refine W_block ?_; ((
      refine wLoop (fun i : Nat => [(3, .int .i64 (i : Nat))]) (fun i => []) (fun i Zi => i ≤ l.length ∧ ∀ j, j < i → dig (l.getD j default)) (fun i => l.length - i) 0 (by repeat' (first | exact trivial | exact rfl | constructor)) (Upd.done ⟨⟨Nat.zero_le _, fun j hj => absurd hj (by omega)⟩, Has.nil⟩) ?_
      intro i Z1 hz1 hp
      obtain ⟨hi, hp⟩ := hp) <;> (refine W_seq ?_; (refine W_seq ?_; (refine W_rgn ?_; ((refine Ra rfl (X_mv rfl ?_)) <;> (refine Ra rfl (X_mv rfl ?_)) <;> (first | (refine Ra rfl (X_len0 rfl ?_)) | (refine Ra rfl (xLen rfl ?_)) | (refine Ra rfl (xLenX rfl ?_))) <;> (refine Ra rfl (X_lss rfl rfl (fun _ => ?_) (fun _ => ?_))) <;> (refine R_nil ?_))) <;> (first | refine thenQ_ret ?_ | refine thenQ_ext ?_ | (refine thenQ_nrm ?_; (refine W_cond rfl (fun ht => ?_) (fun ht => ?_) <;> (first | exact absurd ht (by decide) | (refine W_skip ?_) | (refine W_exit ?_)))))) <;> (first | refine thenQ_ret ?_ | refine thenQ_ext ?_ | (refine thenQ_nrm ?_; (refine W_seq ?_; (refine W_block ?_; (refine W_seq ?_; (refine W_rgn ?_; ((refine Ra rfl (X_mv rfl ?_)) <;> (refine Ra rfl (X_mv rfl ?_)) <;> (first | (refine Ra rfl (xIa rfl rfl (by omega) (by omega) ?_)) | (refine Ra rfl (xIaX rfl rfl (by omega) (by assumption) ?_))) <;> (first | (refine Ra rfl (X_load (lB rfl rfl) ?_)) | (refine Ra rfl (X_load (lB rfl (cS_at0 (by omega))) ?_)) | (refine Ra rfl (X_load (lE rfl (by omega) (cS_at1 (by omega))) ?_)) | (refine Ra rfl (X_load (lE0 rfl (by omega) rfl) ?_)) | (refine Ra rfl (X_load (lE rfl (by omega) rfl) ?_)) | (refine Ra rfl (X_load (lX0 rfl (by assumption) rfl) ?_)) | (refine Ra rfl (X_load (lX rfl (by assumption) rfl) ?_))) <;> (first | (refine Ra rfl (X_bin (v := .bool true) rfl rfl rfl ?_)) | (refine Ra rfl (X_bin (v := .bool false) rfl rfl rfl ?_)) | (refine Ra rfl (X_neq rfl rfl (fun _ => ?_) (fun _ => ?_))) | (refine Ra rfl (xNeL rfl rfl (fun _ => ?_) (fun _ => ?_))) | (refine Ra rfl (X_bin rfl rfl rfl ?_))) <;> (refine Ra rfl (X_mv rfl ?_)) <;> (first | (refine Rb rfl rfl (X_mv rfl ?_)) | (refine Rc rfl rfl ?_) | (refine Rd rfl rfl ?_)) <;> (first | (refine Rb rfl rfl (X_mv rfl ?_)) | (refine Rc rfl rfl ?_) | (refine Rd rfl rfl ?_)) <;> (first | (refine Rb rfl rfl (xIa rfl rfl (by omega) (by omega) ?_)) | (refine Rb rfl rfl (xIaX rfl rfl (by omega) (by assumption) ?_)) | (refine Rc rfl rfl ?_) | (refine Rd rfl rfl ?_)) <;> (first | (refine Rb rfl rfl (X_load (lB rfl rfl) ?_)) | (refine Rb rfl rfl (X_load (lB rfl (cS_at0 (by omega))) ?_)) | (refine Rb rfl rfl (X_load (lE rfl (by omega) (cS_at1 (by omega))) ?_)) | (refine Rb rfl rfl (X_load (lE0 rfl (by omega) rfl) ?_)) | (refine Rb rfl rfl (X_load (lE rfl (by omega) rfl) ?_)) | (refine Rb rfl rfl (X_load (lX0 rfl (by assumption) rfl) ?_)) | (refine Rb rfl rfl (X_load (lX rfl (by assumption) rfl) ?_)) | (refine Rc rfl rfl ?_) | (refine Rd rfl rfl ?_)) <;> (first | (refine Rb rfl rfl (X_bin (v := .bool true) rfl rfl rfl ?_)) | (refine Rb rfl rfl (X_bin (v := .bool false) rfl rfl rfl ?_)) | (refine Rb rfl rfl (X_neq rfl rfl (fun _ => ?_) (fun _ => ?_))) | (refine Rb rfl rfl (xNeL rfl rfl (fun _ => ?_) (fun _ => ?_))) | (refine Rb rfl rfl (X_bin rfl rfl rfl ?_)) | (refine Rc rfl rfl ?_) | (refine Rd rfl rfl ?_)) <;> (first | (refine Ra rfl (X_pickT rfl rfl ?_)) | (refine Ra rfl (X_pickF rfl rfl ?_)) | (refine Ra rfl (X_pick rfl rfl rfl ?_))) <;> (refine R_nil ?_))) <;> (first | refine thenQ_ret ?_ | refine thenQ_ext ?_ | (refine thenQ_nrm ?_; (refine W_cond rfl (fun ht => ?_) (fun ht => ?_) <;> (first | exact absurd ht (by decide) | (refine W_seq ?_; (refine W_rgn ?_; ((refine Ra rfl (X_mv rfl ?_)) <;> (refine R_nil ?_))) <;> (first | refine thenQ_ret ?_ | refine thenQ_ext ?_ | (refine thenQ_nrm ?_; (refine W_ret ?_)))) | (refine W_skip ?_)))))) <;> (first | refine blockQ_nrm ?_ | refine blockQ_ret ?_ | refine blockQ_ext ?_ | refine blockQ_far rfl ?_)) <;> (first | refine thenQ_ret ?_ | refine thenQ_ext ?_ | (refine thenQ_nrm ?_; (refine W_rgn ?_; ((refine Ra rfl (X_mv rfl ?_)) <;> (first | (refine Ra rfl (X_addI rfl rfl (by omega) (by omega) ?_)) | (refine Ra rfl (X_bin rfl rfl rfl ?_))) <;> (refine Ra rfl (X_mv rfl ?_)) <;> (refine R_nil ?_))))))))) <;> (first | refine thenQ_ret ?_ | refine thenQ_ext ?_ | (refine thenQ_nrm ?_; (
        refine Upd.done ⟨i + 1, by omega, ⟨by omega, fun j hj => ?_⟩, (by repeat' (first | exact trivial | exact rfl | constructor)), Has.nil⟩
        rcases Nat.lt_or_ge j i with h9 | h9
        · exact hp j h9
        · obtain rfl : j = i := by omega
          unfold dig
          omega)))) <;> (first | refine blockQ_nrm ?_ | refine blockQ_ret ?_ | refine blockQ_ext ?_ | refine blockQ_far rfl ?_))))) <;> (first | refine thenQ_ret ?_ | refine thenQ_ext ?_ | (refine thenQ_nrm ?_; (refine W_seq ?_; (refine W_rgn ?_; ((refine Ra rfl (X_mv rfl ?_)) <;> (refine R_nil ?_))) <;> (first | refine thenQ_ret ?_ | refine thenQ_ext ?_ | (refine thenQ_nrm ?_; (refine W_ret ?_))))))))))
  <;> (first | refine fnP_ret (Res.tmp rfl Res.nil) ?_ | refine fnP_nrm (Res.tmp rfl Res.nil) ?_)
  all_goals first
    | exact ⟨true, rfl, fun _ => digs_of fun j hj => hp j (by omega), fun _ => rfl⟩
    | (refine ⟨false, rfl, fun hh => (by cases hh), fun hr => ?_⟩
       have q := hr.at (show i < l.length by omega)
       unfold dig at q
       omega)
end Go.Proofs.Ytgaplmpopgdfbaa.Hm.V
