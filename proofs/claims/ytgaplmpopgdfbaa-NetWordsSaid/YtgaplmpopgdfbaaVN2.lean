/- Of layer 15: the values of the nodes; Nodes, Eval. -/
import Derived.Test.YtgaplmpopgdfbaaHF
import Derived.Test.YtgaplmpopgdfbaaA6
import Derived.Test.YtgaplmpopgdfbaaVN1
namespace Go.Proofs.Ytgaplmpopgdfbaa.Hm.V
open Go
set_option linter.all false
set_option maxRecDepth 100000
attribute [local irreducible] X S R D W Call Upd Rds Rck Sees Res Cel CallP fnQ
def valI (vals : List Int) (a : Int) : Int := if a < 2 then a else if a % 2 = 0 then vals.getD (a / 2 - 1).toNat default else 1 - vals.getD (a / 2 - 1).toNat default
def stepV (vals : List Int) (g : Gt) : List Int := vals ++ [valI vals g.a * valI vals g.b]
/-- The values of all nodes. -/
def nodesL (inp : List Int) (gs : List Gt) : List Int := gs.foldl stepV inp
theorem nodesL_len (inp : List Int) : ∀ gs : List Gt, (nodesL inp gs).length = inp.length + gs.length := fun gs => by
  induction gs generalizing inp with
  | nil => rfl
  | cons g gs ih =>
    show (nodesL (stepV inp g) gs).length = _
    rw [ih]
    simp only [stepV, List.length_append, List.length_cons, List.length_nil]
    omega
theorem nodesL_snoc (inp : List Int) (gs : List Gt) (g : Gt) : nodesL inp (gs ++ [g]) = stepV (nodesL inp gs) g := by unfold nodesL; rw [List.foldl_append]; rfl
theorem nodesL_take {inp : List Int} {gs : List Gt} {i : Nat} (hi : i < gs.length) : nodesL inp (gs.take (i + 1)) = stepV (nodesL inp (gs.take i)) (gs.getD i default) := by
  rw [List.take_succ, getD_at hi]
  exact nodesL_snoc _ _ _
theorem nodesL_tlen {inp : List Int} {gs : List Gt} {i : Nat} (hi : i ≤ gs.length) : (nodesL inp (gs.take i)).length = inp.length + i := by rw [nodesL_len, List.length_take]; omega
theorem dig.mul {x y : Int} (h : dig x) (k : dig y) : dig (x * y) := by
  rcases h with rfl | rfl <;> rcases k with rfl | rfl <;> simp [dig]
theorem dig.ge {x : Int} (h : dig x) : 0 ≤ x ∧ x ≤ 1 := by rcases h with rfl | rfl <;> decide
theorem valI_dig {vals : List Int} {a : Int} (hd : digs vals) (h : litP a vals.length) : dig (valI vals a) := by
  unfold litP at h
  unfold valI
  have hx : 2 ≤ a → dig (vals.getD (a / 2 - 1).toNat default) := fun h2 => hd.at (by omega)
  unfold dig at hx ⊢
  split
  · omega
  · split <;> omega
theorem nodesL_dig {inp : List Int} {gs : List Gt} (hd : digs inp) (hg : ∀ i, i < gs.length → gtOk inp.length gs i) : ∀ i, i ≤ gs.length → digs (nodesL inp (gs.take i))
  | 0, _ => by rw [List.take_zero]; exact hd
  | i + 1, hi => by
    have ih := nodesL_dig hd hg i (by omega)
    rw [nodesL_take hi]
    obtain ⟨h1, h2⟩ := hg i hi
    have e : (nodesL inp (gs.take i)).length = inp.length + i := nodesL_tlen (by omega)
    intro x hx
    rcases List.mem_append.1 hx with hx | hx
    · exact ih x hx
    · rw [List.mem_singleton.1 hx]
      exact (valI_dig ih (by rw [e]; push_cast; exact h1)).mul (valI_dig ih (by rw [e]; push_cast; exact h2))
theorem xor_dig {x a : Int} (hx : dig x) (ha : 0 ≤ a) : ((x.toNat ^^^ (a % 2 ^ 1).toNat : Nat) : Int) = if a % 2 = 0 then x else 1 - x := by
  rcases Int.emod_two_eq a with h | h <;> rcases hx with rfl | rfl <;> simp [h]
theorem eval1_eq {vals : List Int} {a : Int} (hd : digs vals) (h : litP a vals.length) : (((((0 : Int) :: vals).getD (a / 2).toNat default).toNat ^^^ (a % 2 ^ 1).toNat : Nat) : Int) = valI vals a := by
  unfold litP at h
  have e : ((0 : Int) :: vals).getD (a / 2).toNat default = if a < 2 then 0 else vals.getD (a / 2 - 1).toNat default := by
    split
    · rw [show (a / 2).toNat = 0 by omega]; rfl
    · rw [show (a / 2).toNat = (a / 2 - 1).toNat + 1 by omega]; rfl
  have hx : dig (((0 : Int) :: vals).getD (a / 2).toNat default) := by
    rw [e]
    split
    · exact .inl rfl
    · exact hd.at (by omega)
  rw [xor_dig hx (by omega), e]
  unfold valI
  by_cases h2 : a < 2
  · simp only [h2, if_true]
    split <;> omega
  · simp only [h2, if_false]
theorem and_dig {x y : Int} (hx : dig x) (hy : dig y) : ((x.toNat &&& y.toNat : Nat) : Int) = x * y := by
  rcases hx with rfl | rfl <;> rcases hy with rfl | rfl <;> rfl
theorem digs0 {l : List Int} (h : digs l) : digs (0 :: l) := fun x hx => by
  rcases List.mem_cons.1 hx with rfl | hx
  · exact .inl rfl
  · exact h x hx
set_option maxHeartbeats 4000000 in
theorem value_ok (lo : Nat) {Z : Vw} {v : Value} {vals : List Int} {a : Int} (h : litP a vals.length) (hl : vals.length ≤ 300000) (hd : digs vals) :
    Call1 F lo 54 [v, .int .i64 a] Z (.gro v 1 (vals.map cI)) fun r _ o' => o' = .gro v 1 (vals.map cI) ∧ r = .int .i64 (valI vals a) := by
  unfold litP at h
  have hx : 2 ≤ a → 0 ≤ vals.getD (a / 2 - 1).toNat default ∧ vals.getD (a / 2 - 1).toNat default ≤ 1 := fun h2 => (hd.at (by omega)).ge
  refine Fn1 (fn := c54) rfl rfl rfl ?_
  (refine W_seq ?_; (refine W_rgn ?_; ((refine Ra rfl (X_mv rfl ?_)) <;> (refine R_nil ?_))) <;> (first | refine thenQ_ret ?_ | refine thenQ_ext ?_ | (refine thenQ_nrm ?_; (refine W_seq ?_; (refine W_seq ?_; (refine W_rgn ?_; ((refine Ra rfl (X_mv rfl ?_)) <;> (refine Ra rfl (X_lss rfl rfl (fun _ => ?_) (fun _ => ?_))) <;> (refine R_nil ?_))) <;> (first | refine thenQ_ret ?_ | refine thenQ_ext ?_ | (refine thenQ_nrm ?_; (refine W_cond rfl (fun ht => ?_) (fun ht => ?_) <;> (first | exact absurd ht (by decide) | (refine W_seq ?_; (refine W_rgn ?_; ((refine Ra rfl (X_mv rfl ?_)) <;> (refine Ra rfl (X_mv rfl ?_)) <;> (refine R_nil ?_))) <;> (first | refine thenQ_ret ?_ | refine thenQ_ext ?_ | (refine thenQ_nrm ?_; (refine W_ret ?_)))) | (refine W_skip ?_)))))) <;> (first | refine thenQ_ret ?_ | refine thenQ_ext ?_ | (refine thenQ_nrm ?_; (refine W_seq ?_; (refine W_seq ?_; (refine W_rgn ?_; ((refine Ra rfl (X_mv rfl ?_)) <;> (first | (refine Ra rfl (X_remI rfl rfl (by omega) (by omega) ?_)) | (refine Ra rfl (X_bin rfl rfl rfl ?_))) <;> (first | (refine Ra rfl (X_bin (v := .bool true) rfl rfl rfl ?_)) | (refine Ra rfl (X_bin (v := .bool false) rfl rfl rfl ?_)) | (refine Ra rfl (X_eql rfl rfl (fun _ => ?_) (fun _ => ?_))) | (refine Ra rfl (xEqL rfl rfl (fun _ => ?_) (fun _ => ?_))) | (refine Ra rfl (X_bin rfl rfl rfl ?_))) <;> (refine R_nil ?_))) <;> (first | refine thenQ_ret ?_ | refine thenQ_ext ?_ | (refine thenQ_nrm ?_; (refine W_cond rfl (fun ht => ?_) (fun ht => ?_) <;> (first | exact absurd ht (by decide) | (refine W_seq ?_; (refine W_rgn ?_; ((refine Ra rfl (X_mv rfl ?_)) <;> (refine Ra rfl (X_mv rfl ?_)) <;> (first | (refine Ra rfl (X_quoI rfl rfl (by omega) (by omega) (by omega) ?_)) | (refine Ra rfl (X_bin rfl rfl rfl ?_))) <;> (first | (refine Ra rfl (X_subI rfl rfl (by omega) (by omega) ?_)) | (refine Ra rfl (X_bin rfl rfl rfl ?_))) <;> (first | (refine Ra rfl (xIa rfl rfl (by omega) (by omega) ?_)) | (refine Ra rfl (xIaX rfl rfl (by omega) (by assumption) ?_))) <;> (first | (refine Ra rfl (X_load (lB rfl rfl) ?_)) | (refine Ra rfl (X_load (lB rfl (cS_at0 (by omega))) ?_)) | (refine Ra rfl (X_load (lE rfl (by omega) (cS_at1 (by omega))) ?_)) | (refine Ra rfl (X_load (lE0 rfl (by omega) rfl) ?_)) | (refine Ra rfl (X_load (lE rfl (by omega) rfl) ?_)) | (refine Ra rfl (X_load (lX0 rfl (by assumption) rfl) ?_)) | (refine Ra rfl (X_load (lX rfl (by assumption) rfl) ?_))) <;> (refine Ra rfl (X_mv rfl ?_)) <;> (refine R_nil ?_))) <;> (first | refine thenQ_ret ?_ | refine thenQ_ext ?_ | (refine thenQ_nrm ?_; (refine W_ret ?_)))) | (refine W_skip ?_)))))) <;> (first | refine thenQ_ret ?_ | refine thenQ_ext ?_ | (refine thenQ_nrm ?_; (refine W_seq ?_; (refine W_rgn ?_; ((refine Ra rfl (X_mv rfl ?_)) <;> (refine Ra rfl (X_mv rfl ?_)) <;> (first | (refine Ra rfl (X_quoI rfl rfl (by omega) (by omega) (by omega) ?_)) | (refine Ra rfl (X_bin rfl rfl rfl ?_))) <;> (first | (refine Ra rfl (X_subI rfl rfl (by omega) (by omega) ?_)) | (refine Ra rfl (X_bin rfl rfl rfl ?_))) <;> (first | (refine Ra rfl (xIa rfl rfl (by omega) (by omega) ?_)) | (refine Ra rfl (xIaX rfl rfl (by omega) (by assumption) ?_))) <;> (first | (refine Ra rfl (X_load (lB rfl rfl) ?_)) | (refine Ra rfl (X_load (lB rfl (cS_at0 (by omega))) ?_)) | (refine Ra rfl (X_load (lE rfl (by omega) (cS_at1 (by omega))) ?_)) | (refine Ra rfl (X_load (lE0 rfl (by omega) rfl) ?_)) | (refine Ra rfl (X_load (lE rfl (by omega) rfl) ?_)) | (refine Ra rfl (X_load (lX0 rfl (by assumption) rfl) ?_)) | (refine Ra rfl (X_load (lX rfl (by assumption) rfl) ?_))) <;> (first | (refine Ra rfl (X_subI rfl rfl (by omega) (by omega) ?_)) | (refine Ra rfl (X_bin rfl rfl rfl ?_))) <;> (refine Ra rfl (X_mv rfl ?_)) <;> (refine R_nil ?_))) <;> (first | refine thenQ_ret ?_ | refine thenQ_ext ?_ | (refine thenQ_nrm ?_; (refine W_ret ?_)))))))))))))
  <;> (first | refine fn1_ret (Res.tmp rfl Res.nil) (hG (v := v) rfl Has.nil) ?_ | refine fn1_nrm (Res.tmp rfl Res.nil) (hG (v := v) rfl Has.nil) ?_)
  all_goals
    refine ⟨rfl, ?_⟩
    unfold valI
    repeat (first | rw [if_pos (by omega)] | rw [if_neg (by omega)])
    rfl
set_option maxHeartbeats 4000000 in
theorem Copy_ok (lo : Nat) {Z : Vw} {v : Value} {l : List Int} [hl : IntsL Z v l] (hlen : l.length * 8 ≤ 2 ^ 47) : Call F lo 38 [v] Z [] fun r Z' O' => O' = [.gro r 1 (l.map cI)] := by
  have hl := hl.out
  refine Fn (fn := c38) rfl rfl rfl ?_
  (refine W_seq ?_; (refine W_rgn ?_; ((refine Ra rfl (X_mv rfl ?_)) <;> (refine R_nil ?_))) <;> (first | refine thenQ_ret ?_ | refine thenQ_ext ?_ | (refine thenQ_nrm ?_; (refine W_seq ?_; (refine W_rgn ?_; ((refine Ra rfl (X_mv rfl ?_)) <;> (refine R_nil ?_))) <;> (first | refine thenQ_ret ?_ | refine thenQ_ext ?_ | (refine thenQ_nrm ?_; (refine W_seq ?_; (refine W_seq ?_; (refine W_rgn ?_; ((refine Ra rfl (X_mv rfl ?_)) <;> (refine R_nil ?_))) <;> (first | refine thenQ_ret ?_ | refine thenQ_ext ?_ | (refine thenQ_nrm ?_; (refine W_block ?_; ((
      refine wLoop (fun (p : Nat × Value) => match p with | (i, vl) => [(4, .int .i64 (i : Nat)), (3, vl)]) (fun p => match p with | (i, vl) => [.gro vl 1 ((l.take i).map cI)]) (fun p _ => match p with | (i, _) => i ≤ l.length) (fun p => match p with | (i, _) => l.length - i) (0, .slice none 0 0) (by repeat' (first | exact trivial | exact rfl | constructor)) (Upd.gro0 (e := 1) (by decide) (Upd.done ⟨Nat.zero_le _, hG rfl Has.nil⟩)) ?_
      rintro ⟨i, vl⟩ Z1 hz1 hi
      have hi : i ≤ l.length := hi) <;> (refine W_seq ?_; (refine W_seq ?_; (refine W_rgn ?_; ((refine Ra rfl (X_mv rfl ?_)) <;> (refine Ra rfl (X_mv rfl ?_)) <;> (first | (refine Ra rfl (X_len0 rfl ?_)) | (refine Ra rfl (xLen rfl ?_)) | (refine Ra rfl (xLenX rfl ?_))) <;> (refine Ra rfl (X_lss rfl rfl (fun _ => ?_) (fun _ => ?_))) <;> (refine R_nil ?_))) <;> (first | refine thenQ_ret ?_ | refine thenQ_ext ?_ | (refine thenQ_nrm ?_; (refine W_cond rfl (fun ht => ?_) (fun ht => ?_) <;> (first | exact absurd ht (by decide) | (refine W_skip ?_) | (refine W_exit ?_)))))) <;> (first | refine thenQ_ret ?_ | refine thenQ_ext ?_ | (refine thenQ_nrm ?_; (refine W_seq ?_; (refine W_block ?_; (refine W_rgn ?_; ((refine Ra rfl (X_mv rfl ?_)) <;> (refine Ra rfl (X_mv rfl ?_)) <;> (refine Ra rfl (X_mv rfl ?_)) <;> (first | (refine Ra rfl (xIa rfl rfl (by omega) (by omega) ?_)) | (refine Ra rfl (xIaX rfl rfl (by omega) (by assumption) ?_))) <;> (first | (refine Ra rfl (X_load (lB rfl rfl) ?_)) | (refine Ra rfl (X_load (lB rfl (cS_at0 (by omega))) ?_)) | (refine Ra rfl (X_load (lE rfl (by omega) (cS_at1 (by omega))) ?_)) | (refine Ra rfl (X_load (lE0 rfl (by omega) rfl) ?_)) | (refine Ra rfl (X_load (lE rfl (by omega) rfl) ?_)) | (refine Ra rfl (X_load (lX0 rfl (by assumption) rfl) ?_)) | (refine Ra rfl (X_load (lX rfl (by assumption) rfl) ?_))) <;> (refine Ra rfl (X_bsliceC (pCons rfl Parts.nil) rfl rfl rfl (fun v16 => ?_))) <;> (refine Ra rfl (xApGm (fe := cI) (l.getD i default) rfl rfl rfl (by simp; omega) (fun v17 => ?_))) <;> (refine Ra rfl (X_mv rfl ?_)) <;> (refine R_nil ?_))) <;> (first | refine blockQ_nrm ?_ | refine blockQ_ret ?_ | refine blockQ_ext ?_ | refine blockQ_far rfl ?_)) <;> (first | refine thenQ_ret ?_ | refine thenQ_ext ?_ | (refine thenQ_nrm ?_; (refine W_rgn ?_; ((refine Ra rfl (X_mv rfl ?_)) <;> (first | (refine Ra rfl (X_addI rfl rfl (by omega) (by omega) ?_)) | (refine Ra rfl (X_bin rfl rfl rfl ?_))) <;> (refine Ra rfl (X_mv rfl ?_)) <;> (refine R_nil ?_))))))))) <;> (first | refine thenQ_ret ?_ | refine thenQ_ext ?_ | (refine thenQ_nrm ?_; (
        refine Upd.done ⟨(i + 1, _), ?_, ?_, (by repeat' (first | exact trivial | exact rfl | constructor)), hG ?_ Has.nil⟩
        · show l.length - (i + 1) < l.length - i
          omega
        · show i + 1 ≤ l.length
          omega
        · rw [List.take_succ, getD_at (by omega)]; rfl)))) <;> (first | refine blockQ_nrm ?_ | refine blockQ_ret ?_ | refine blockQ_ext ?_ | refine blockQ_far rfl ?_))))) <;> (first | refine thenQ_ret ?_ | refine thenQ_ext ?_ | (refine thenQ_nrm ?_; (refine W_seq ?_; (refine W_rgn ?_; ((refine Ra rfl (X_mv rfl ?_)) <;> (refine Ra rfl (X_mv rfl ?_)) <;> (refine R_nil ?_))) <;> (first | refine thenQ_ret ?_ | refine thenQ_ext ?_ | (refine thenQ_nrm ?_; (refine W_ret ?_)))))))))))))
  <;> (first | refine fn_ret (Res.tmp rfl Res.nil) ?_ | refine fn_nrm (Res.tmp rfl Res.nil) ?_)
  have hi2 : i = l.length := by omega
  subst hi2
  show Upd lo Z1 [.gro vl 1 ((l.take l.length).map cI)] _
  rw [List.take_length]
  exact Upd.has (L := [.gro vl 1 (l.map cI)]) (hG rfl Has.nil) rfl
set_option maxHeartbeats 4000000 in
theorem Nodes_ok (lo : Nat) {Z : Vw} {v vi : Value} {n : Nt} {inp : List Int} (hn : NtV Z v n) [hv : IntsL Z vi inp] (hN : isNet n) (hI : (inp.length : Int) = n.I) (hd : digs inp) :
    Call F lo 37 [v, vi] Z [] fun r _ O' => O' = [.gro r 1 ((nodesL inp n.gs).map cI)] := by
  obtain ⟨vg, rfl, hg, hl⟩ := hn
  obtain ⟨n0, n1, n2, n3, n4⟩ := hN
  have hdg := nodesL_dig hd (gs := n.gs) (fun i hi => by rw [hI]; exact n4 i hi)
  have hle := fun i (hi : i ≤ n.gs.length) => nodesL_tlen (inp := inp) hi
  have hlt := fun i (hi : i < n.gs.length) => n4 i hi
  have hiv := hv.out
  refine Fn (fn := c37) rfl rfl rfl ?_
  (refine W_seq ?_; (refine W_rgn ?_; ((refine Ra rfl (xBox rfl (fun b2 => ?_))) <;> (refine Ra rfl (X_mv rfl ?_)) <;> (refine R_nil ?_))) <;> (first | refine thenQ_ret ?_ | refine thenQ_ext ?_ | (refine thenQ_nrm ?_; (refine W_seq ?_; (refine W_rgn ?_; ((refine Ra rfl (X_mv rfl ?_)) <;> (refine Ra rfl (xCg (Copy_ok lo (by omega)) rfl (fun v8 Z8 hz8 => ?_))) <;> (refine Ra rfl (X_mv rfl ?_)) <;> (refine R_nil ?_))) <;> (first | refine thenQ_ret ?_ | refine thenQ_ext ?_ | (refine thenQ_nrm ?_; (refine W_seq ?_; (refine W_seq ?_; (refine W_rgn ?_; ((refine Ra rfl (X_mv rfl ?_)) <;> (refine R_nil ?_))) <;> (first | refine thenQ_ret ?_ | refine thenQ_ext ?_ | (refine thenQ_nrm ?_; (refine W_block ?_; ((
      refine wLoop (fun (p : Nat × Value) => match p with | (i, vl) => [(6, .int .i64 (i : Nat)), (5, vl)]) (fun p => match p with | (i, vl) => [.box b2 [.int .i64 n.I, vg, .int .i64 n.out], .gro vl 1 ((nodesL inp (n.gs.take i)).map cI)]) (fun p _ => match p with | (i, _) => i ≤ n.gs.length) (fun p => match p with | (i, _) => n.gs.length - i) (0, _) (by repeat' (first | exact trivial | exact rfl | constructor)) (Upd.done ⟨Nat.zero_le _, hB rfl (hG rfl Has.nil)⟩) ?_
      rintro ⟨i, vl⟩ Z1 hz1 hi
      have hi : i ≤ n.gs.length := hi
      have hln := hle i hi) <;> (refine W_seq ?_; (refine W_seq ?_; (refine W_rgn ?_; ((refine Ra rfl (X_mv rfl ?_)) <;> (refine Ra rfl (X_faddr rfl ?_)) <;> (first | (refine Ra rfl (X_load (lB rfl rfl) ?_)) | (refine Ra rfl (X_load (lB rfl (cS_at0 (by omega))) ?_)) | (refine Ra rfl (X_load (lE rfl (by omega) (cS_at1 (by omega))) ?_)) | (refine Ra rfl (X_load (lE0 rfl (by omega) rfl) ?_)) | (refine Ra rfl (X_load (lE rfl (by omega) rfl) ?_)) | (refine Ra rfl (X_load (lX0 rfl (by assumption) rfl) ?_)) | (refine Ra rfl (X_load (lX rfl (by assumption) rfl) ?_))) <;> (first | (refine Ra rfl (X_len0 rfl ?_)) | (refine Ra rfl (xLen rfl ?_)) | (refine Ra rfl (xLenX rfl ?_))) <;> (refine Ra rfl (X_lss rfl rfl (fun _ => ?_) (fun _ => ?_))) <;> (refine R_nil ?_))) <;> (first | refine thenQ_ret ?_ | refine thenQ_ext ?_ | (refine thenQ_nrm ?_; (refine W_cond rfl (fun ht => ?_) (fun ht => ?_) <;> (first | exact absurd ht (by decide) | (refine W_skip ?_) | (refine W_exit ?_)))))) <;> (first | refine thenQ_ret ?_ | refine thenQ_ext ?_ | (refine thenQ_nrm ?_; (refine W_seq ?_; (refine W_block ?_; (refine W_drw ?_; ((refine Da rfl rfl (X_mv rfl ?_)) <;> (refine Da rfl rfl (X_mv rfl ?_)) <;> (refine Da rfl rfl (X_faddr rfl ?_)) <;> (first | (refine Da rfl rfl (X_load (lB rfl rfl) ?_)) | (refine Da rfl rfl (X_load (lB rfl (cS_at0 (by omega))) ?_)) | (refine Da rfl rfl (X_load (lE rfl (by omega) (cS_at1 (by omega))) ?_)) | (refine Da rfl rfl (X_load (lE0 rfl (by omega) rfl) ?_)) | (refine Da rfl rfl (X_load (lE rfl (by omega) rfl) ?_)) | (refine Da rfl rfl (X_load (lX0 rfl (by assumption) rfl) ?_)) | (refine Da rfl rfl (X_load (lX rfl (by assumption) rfl) ?_))) <;> (refine Da rfl rfl (X_mv rfl ?_)) <;> (first | (refine Da rfl rfl (xIa rfl rfl (by omega) (by omega) ?_)) | (refine Da rfl rfl (xIaX rfl rfl (by omega) (by assumption) ?_))) <;> (refine Da rfl rfl (X_faddr rfl ?_)) <;> (first | (refine Da rfl rfl (X_load (lB rfl rfl) ?_)) | (refine Da rfl rfl (X_load (lB rfl (cS_at0 (by omega))) ?_)) | (refine Da rfl rfl (X_load (lE rfl (by omega) (cS_at1 (by omega))) ?_)) | (refine Da rfl rfl (X_load (lE0 rfl (by omega) rfl) ?_)) | (refine Da rfl rfl (X_load (lE rfl (by omega) rfl) ?_)) | (refine Da rfl rfl (X_load (lX0 rfl (by assumption) rfl) ?_)) | (refine Da rfl rfl (X_load (lX rfl (by assumption) rfl) ?_))) <;> (refine Da rfl rfl (X_mv rfl ?_)) <;> (refine Da rfl rfl (X_faddr rfl ?_)) <;> (first | (refine Da rfl rfl (X_load (lB rfl rfl) ?_)) | (refine Da rfl rfl (X_load (lB rfl (cS_at0 (by omega))) ?_)) | (refine Da rfl rfl (X_load (lE rfl (by omega) (cS_at1 (by omega))) ?_)) | (refine Da rfl rfl (X_load (lE0 rfl (by omega) rfl) ?_)) | (refine Da rfl rfl (X_load (lE rfl (by omega) rfl) ?_)) | (refine Da rfl rfl (X_load (lX0 rfl (by assumption) rfl) ?_)) | (refine Da rfl rfl (X_load (lX rfl (by assumption) rfl) ?_))) <;> (refine Da rfl rfl (X_mv rfl ?_)) <;> (first | (refine Da rfl rfl (xIa rfl rfl (by omega) (by omega) ?_)) | (refine Da rfl rfl (xIaX rfl rfl (by omega) (by assumption) ?_))) <;> (refine Da rfl rfl (X_faddr rfl ?_)) <;> (first | (refine Da rfl rfl (X_load (lB rfl rfl) ?_)) | (refine Da rfl rfl (X_load (lB rfl (cS_at0 (by omega))) ?_)) | (refine Da rfl rfl (X_load (lE rfl (by omega) (cS_at1 (by omega))) ?_)) | (refine Da rfl rfl (X_load (lE0 rfl (by omega) rfl) ?_)) | (refine Da rfl rfl (X_load (lE rfl (by omega) rfl) ?_)) | (refine Da rfl rfl (X_load (lX0 rfl (by assumption) rfl) ?_)) | (refine Da rfl rfl (X_load (lX rfl (by assumption) rfl) ?_))) <;> (refine D_consR rfl (S_do rfl (x1Gs (value_ok lo (vals := nodesL inp (n.gs.take i)) (by rw [hle i (by omega)]; push_cast; rw [hI]; exact (hlt i (by omega)).1) (by rw [hle i (by omega)]; omega) (hdg i (by omega))) rfl (fun _ Z24 hz24 hq => ⟨(by (first | refine rDo rfl rfl (lB rfl rfl) ?_ | refine rDo rfl rfl (lB rfl (cS_at0 (by omega))) ?_ | refine rDo rfl rfl (lE rfl (by omega) (cS_at1 (by omega))) ?_ | refine rDo rfl rfl (lE0 rfl (by omega) rfl) ?_ | refine rDo rfl rfl (lE rfl (by omega) rfl) ?_ | refine rDo rfl rfl (lX0 rfl (by assumption) rfl) ?_ | refine rDo rfl rfl (lX rfl (by assumption) rfl) ?_); (first | refine rDo rfl rfl (lB rfl rfl) ?_ | refine rDo rfl rfl (lB rfl (cS_at0 (by omega))) ?_ | refine rDo rfl rfl (lE rfl (by omega) (cS_at1 (by omega))) ?_ | refine rDo rfl rfl (lE0 rfl (by omega) rfl) ?_ | refine rDo rfl rfl (lE rfl (by omega) rfl) ?_ | refine rDo rfl rfl (lX0 rfl (by assumption) rfl) ?_ | refine rDo rfl rfl (lX rfl (by assumption) rfl) ?_); exact Rck_nil), ?_⟩))); (subst hq)) <;> (refine Da rfl rfl (x1Gs (value_ok lo (vals := nodesL inp (n.gs.take i)) (by rw [hle i (by omega)]; push_cast; rw [hI]; exact (hlt i (by omega)).2) (by rw [hle i (by omega)]; omega) (hdg i (by omega))) rfl (fun _ Z32 hz32 hq => ?_)); (subst hq)) <;> (refine Da rfl rfl (X_mulI rfl rfl (by have q := ((valI_dig (hdg i (by omega)) (by rw [hle i (by omega)]; push_cast; rw [hI]; exact (hlt i (by omega)).1)).mul (valI_dig (hdg i (by omega)) (by rw [hle i (by omega)]; push_cast; rw [hI]; exact (hlt i (by omega)).2))).ge; omega) (by have q := ((valI_dig (hdg i (by omega)) (by rw [hle i (by omega)]; push_cast; rw [hI]; exact (hlt i (by omega)).1)).mul (valI_dig (hdg i (by omega)) (by rw [hle i (by omega)]; push_cast; rw [hI]; exact (hlt i (by omega)).2))).ge; omega) ?_)) <;> (refine Da rfl rfl (X_bsliceC (pCons rfl Parts.nil) rfl rfl rfl (fun v34 => ?_))) <;> (refine Da rfl rfl (xApGm (fe := cI) (valI (nodesL inp (n.gs.take i)) (n.gs.getD i default).a * valI (nodesL inp (n.gs.take i)) (n.gs.getD i default).b) rfl rfl rfl (by rw [hle i (by omega)]; omega) (fun v35 => ?_))) <;> (refine Da rfl rfl (X_mv rfl ?_)) <;> (refine D_nil ?_))) <;> (first | refine blockQ_nrm ?_ | refine blockQ_ret ?_ | refine blockQ_ext ?_ | refine blockQ_far rfl ?_)) <;> (first | refine thenQ_ret ?_ | refine thenQ_ext ?_ | (refine thenQ_nrm ?_; (refine W_rgn ?_; ((refine Ra rfl (X_mv rfl ?_)) <;> (first | (refine Ra rfl (X_addI rfl rfl (by omega) (by omega) ?_)) | (refine Ra rfl (X_bin rfl rfl rfl ?_))) <;> (refine Ra rfl (X_mv rfl ?_)) <;> (refine R_nil ?_))))))))) <;> (first | refine thenQ_ret ?_ | refine thenQ_ext ?_ | (refine thenQ_nrm ?_; (
        refine Upd.done ⟨(i + 1, _), ?_, ?_, (by repeat' (first | exact trivial | exact rfl | constructor)), hB rfl (hG ?_ Has.nil)⟩
        · show n.gs.length - (i + 1) < n.gs.length - i
          omega
        · show i + 1 ≤ n.gs.length
          omega
        · rw [nodesL_take (by omega)]; rfl)))) <;> (first | refine blockQ_nrm ?_ | refine blockQ_ret ?_ | refine blockQ_ext ?_ | refine blockQ_far rfl ?_))))) <;> (first | refine thenQ_ret ?_ | refine thenQ_ext ?_ | (refine thenQ_nrm ?_; (refine W_seq ?_; (refine W_rgn ?_; ((refine Ra rfl (X_mv rfl ?_)) <;> (refine Ra rfl (X_mv rfl ?_)) <;> (refine R_nil ?_))) <;> (first | refine thenQ_ret ?_ | refine thenQ_ext ?_ | (refine thenQ_nrm ?_; (refine W_ret ?_)))))))))))))
  <;> (first | refine fn_ret (Res.tmp rfl Res.nil) ?_ | refine fn_nrm (Res.tmp rfl Res.nil) ?_)
  have hi2 : i = n.gs.length := by omega
  subst hi2
  show Upd lo Z1 [.box b2 [.int .i64 n.I, vg, .int .i64 n.out], .gro vl 1 ((nodesL inp (n.gs.take n.gs.length)).map cI)] _
  rw [List.take_length]
  exact Upd.has (L := [.gro vl 1 ((nodesL inp n.gs).map cI)]) (hG rfl Has.nil) rfl
set_option maxHeartbeats 4000000 in
theorem REval_ok (lo : Nat) {Z : Vw} {v vi : Value} {n : Nt} {inp : List Int} (hn : NtV Z v n) [hv : IntsL Z vi inp] (hN : isNet n) (hI : (inp.length : Int) = n.I) (hd : digs inp) :
    CallP F lo 18 [v, vi] Z fun r _ => r = .int .i64 (valI (nodesL inp n.gs) n.out) := by
  have hnv := hn
  have hN0 := hN
  obtain ⟨vg, rfl, hg, hl⟩ := hn
  obtain ⟨n0, n1, n2, n3, n4⟩ := hN
  have hdg := nodesL_dig hd (gs := n.gs) (fun i hi => by rw [hI]; exact n4 i hi)
  have hle := fun i (hi : i ≤ n.gs.length) => nodesL_tlen (inp := inp) hi
  have hlt := fun i (hi : i < n.gs.length) => n4 i hi
  have hiv := hv.out
  have hfl := nodesL_len inp n.gs
  have hfd := hdg n.gs.length (Nat.le_refl _)
  rw [List.take_length] at hfd
  refine FnP (fn := c18) rfl rfl rfl ?_
  (refine W_seq ?_; (refine W_rgn ?_; ((refine Ra rfl (xBox rfl (fun b2 => ?_))) <;> (refine Ra rfl (X_mv rfl ?_)) <;> (refine R_nil ?_))) <;> (first | refine thenQ_ret ?_ | refine thenQ_ext ?_ | (refine thenQ_nrm ?_; (refine W_seq ?_; (refine W_drw ?_; ((first | (refine Da rfl rfl (X_load (lBA rfl rfl) ?_)) | (refine Da rfl rfl (X_load (lEA rfl (by omega)) ?_)) | (refine Da rfl rfl (X_load (lEP rfl (by omega) rfl) ?_)) | (refine Da rfl rfl (X_load (lXA rfl (by assumption)) ?_)) | (refine Da rfl rfl (X_load (lBP rfl rfl) ?_))) <;> (refine Da rfl rfl (X_mv rfl ?_)) <;> (refine Da rfl rfl (X_faddr rfl ?_)) <;> (first | (refine Da rfl rfl (X_load (lB rfl rfl) ?_)) | (refine Da rfl rfl (X_load (lB rfl (cS_at0 (by omega))) ?_)) | (refine Da rfl rfl (X_load (lE rfl (by omega) (cS_at1 (by omega))) ?_)) | (refine Da rfl rfl (X_load (lE0 rfl (by omega) rfl) ?_)) | (refine Da rfl rfl (X_load (lE rfl (by omega) rfl) ?_)) | (refine Da rfl rfl (X_load (lX0 rfl (by assumption) rfl) ?_)) | (refine Da rfl rfl (X_load (lX rfl (by assumption) rfl) ?_))) <;> (refine D_consR rfl (S_do rfl (xCg (Nodes_ok lo (n := n) (inp := inp) hnv hN0 hI hd) rfl (fun v7 Z7 hz7 => ⟨(by (first | refine rDo rfl rfl (lB rfl rfl) ?_ | refine rDo rfl rfl (lB rfl (cS_at0 (by omega))) ?_ | refine rDo rfl rfl (lE rfl (by omega) (cS_at1 (by omega))) ?_ | refine rDo rfl rfl (lE0 rfl (by omega) rfl) ?_ | refine rDo rfl rfl (lE rfl (by omega) rfl) ?_ | refine rDo rfl rfl (lX0 rfl (by assumption) rfl) ?_ | refine rDo rfl rfl (lX rfl (by assumption) rfl) ?_); exact Rck_nil), ?_⟩)))) <;> (refine Da rfl rfl (x1Gs (value_ok lo (vals := nodesL inp n.gs) (by rw [hfl]; push_cast; rw [hI]; exact n3) (by rw [hfl]; omega) hfd) rfl (fun _ Z10 hz10 hq => ?_)); (subst hq)) <;> (refine Da rfl rfl (X_mv rfl ?_)) <;> (refine D_nil ?_))) <;> (first | refine thenQ_ret ?_ | refine thenQ_ext ?_ | (refine thenQ_nrm ?_; (refine W_ret ?_)))))))
  <;> (first | refine fnP_ret (Res.tmp rfl Res.nil) ?_ | refine fnP_nrm (Res.tmp rfl Res.nil) ?_)
  all_goals rfl
set_option maxHeartbeats 4000000 in
theorem Eval1_ok (lo : Nat) {Z : Vw} {b : Nat} {v : Value} {vals w : List Int} {a : Int} (hw : w = 0 :: vals) (h : litP a vals.length) (hl : vals.length ≤ 300000) (hd : digs vals) :
    Call F lo 58 [.int .i64 a, .pointer (some ⟨b, 0, none⟩)] Z [.box b [v], .gro v 1 (w.map cI)] fun r _ O' => O' = [.box b [v], .gro v 1 (w.map cI)] ∧ r = .int .i64 (valI vals a) := by
  have h0 := h
  unfold litP at h
  have hwl : w.length = vals.length + 1 := by rw [hw]; rfl
  have hx := ((digs0 hd).at (i := (a / 2).toNat) (by simp only [List.length_cons]; omega)).ge
  rw [← hw] at hx
  have e21 : (2 : Int) ^ 1 = 2 := by decide
  have hm : 0 ≤ a % 2 ^ 1 ∧ a % 2 ^ 1 ≤ 1 := by rw [e21]; omega
  refine Fn (fn := c58) rfl rfl rfl ?_
  (refine W_seq ?_; (refine W_rgn ?_; ((refine Ra rfl (X_mv rfl ?_)) <;> (refine R_nil ?_))) <;> (first | refine thenQ_ret ?_ | refine thenQ_ext ?_ | (refine thenQ_nrm ?_; (refine W_seq ?_; (refine W_rgn ?_; ((first | (refine Ra rfl (X_load (lB rfl rfl) ?_)) | (refine Ra rfl (X_load (lB rfl (cS_at0 (by omega))) ?_)) | (refine Ra rfl (X_load (lE rfl (by omega) (cS_at1 (by omega))) ?_)) | (refine Ra rfl (X_load (lE0 rfl (by omega) rfl) ?_)) | (refine Ra rfl (X_load (lE rfl (by omega) rfl) ?_)) | (refine Ra rfl (X_load (lX0 rfl (by assumption) rfl) ?_)) | (refine Ra rfl (X_load (lX rfl (by assumption) rfl) ?_))) <;> (refine Ra rfl (X_mv rfl ?_)) <;> (first | (refine Ra rfl (X_quoI rfl rfl (by omega) (by omega) (by omega) ?_)) | (refine Ra rfl (X_bin rfl rfl rfl ?_))) <;> (first | (refine Ra rfl (xIa rfl rfl (by omega) (by omega) ?_)) | (refine Ra rfl (xIaX rfl rfl (by omega) (by assumption) ?_))) <;> (first | (refine Ra rfl (X_load (lB rfl rfl) ?_)) | (refine Ra rfl (X_load (lB rfl (cS_at0 (by omega))) ?_)) | (refine Ra rfl (X_load (lE rfl (by omega) (cS_at1 (by omega))) ?_)) | (refine Ra rfl (X_load (lE0 rfl (by omega) rfl) ?_)) | (refine Ra rfl (X_load (lE rfl (by omega) rfl) ?_)) | (refine Ra rfl (X_load (lX0 rfl (by assumption) rfl) ?_)) | (refine Ra rfl (X_load (lX rfl (by assumption) rfl) ?_))) <;> (refine Ra rfl (X_mv rfl ?_)) <;> (refine Ra rfl (X_andM (n := 1) rfl rfl (by omega) ?_)) <;> (refine Ra rfl (X_xorI rfl rfl (by omega) (by omega) (by omega) (by omega) ?_)) <;> (refine Ra rfl (X_mv rfl ?_)) <;> (refine R_nil ?_))) <;> (first | refine thenQ_ret ?_ | refine thenQ_ext ?_ | (refine thenQ_nrm ?_; (refine W_ret ?_)))))))
  <;> (first | refine fn_ret (Res.tmp rfl Res.nil) ?_ | refine fn_nrm (Res.tmp rfl Res.nil) ?_)
  all_goals
    refine Upd.has (L := [.box b [v], .gro v 1 (w.map cI)]) (hB rfl (hG rfl Has.nil)) ⟨rfl, ?_⟩
    rw [← eval1_eq hd h0, ← hw]
    rfl
end Go.Proofs.Ytgaplmpopgdfbaa.Hm.V
