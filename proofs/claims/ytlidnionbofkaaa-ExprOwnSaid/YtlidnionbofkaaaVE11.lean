/- Cells and stores: the program's; what a function that sees is. -/
import Derived.Test.YtlidnionbofkaaaHF
import Derived.Test.YtlidnionbofkaaaA6
import Derived.Test.YtlidnionbofkaaaVE10
import Derived.Test.YtlidnionbofkaaaVW2
namespace Go.Proofs.Ytlidnionbofkaaa.Hm.V
open Go
set_option linter.all false
set_option maxRecDepth 100000
attribute [local irreducible] X S R D W Call Upd Rds Rck Sees Res Cel CallP fnQ
theorem Has.refl' : ∀ L : List Pt, Has L L
  | [] => Has.nil
  | .box _ _ :: L => .box .here rfl (Has.refl' L)
  | .arr _ _ _ _ :: L => .arr .here rfl (Has.refl' L)
  | .gro _ _ _ :: L => .gro .here rfl (Has.refl' L)
  | .map _ _ :: L => .map .here rfl (Has.refl' L)
theorem Pick.refl' : ∀ L : List Pt, Pick L L []
  | [] => Pick.nil
  | .box _ _ :: L => .box .here rfl (Pick.refl' L)
  | .arr _ _ _ _ :: L => .arr .here rfl (Pick.refl' L)
  | .gro _ _ _ :: L => .gro .here rfl (Pick.refl' L)
  | .map _ _ :: L => .map .here rfl (Pick.refl' L)
theorem Has.skip {x : Pt} {O L : List Pt} (k : Has O L) : Has (x :: O) L := by
  induction k with
  | nil => exact .nil
  | box ha hc k ih => exact .box (.there ha) hc ih
  | arr ha hc k ih => exact .arr (.there ha) hc ih
  | gro ha hc k ih => exact .gro (.there ha) hc ih
  | arrGro ha hl he hc k ih => exact .arrGro (.there ha) hl he hc ih
  | map ha hc k ih => exact .map (.there ha) hc ih
theorem Pick.skip {x : Pt} {O L r : List Pt} (k : Pick O L r) : Pick (x :: O) L (x :: r) := by
  induction k with
  | nil => exact .nil
  | box ha hc k ih => exact .box (.there ha) hc ih
  | arr ha hc k ih => exact .arr (.there ha) hc ih
  | gro ha hc k ih => exact .gro (.there ha) hc ih
  | map ha hc k ih => exact .map (.there ha) hc ih
section
variable {F : Nat → Option HFn} {lo N : Nat} {A : Tab} {Z : Vw} {O : List Pt} {K : Value → Vw → List Pt → Prop}
theorem X_perm {op : HOp} (k : X F lo op N A Z O fun v Z1 O1 => ∃ O2, O1.Perm O2 ∧ K v Z1 O2) : X F lo op N A Z O K := by
  unfold X at *
  intro R σ h hs m
  obtain ⟨n, v, h', Z', O', k1, k2, k3, O2, hp, k4⟩ := k R σ h hs m
  exact ⟨n, v, h', Z', O2, k1, k2, k3.perm (hp.append_right R), k4⟩
/-- A call that is lent parts at the end of those that there are. -/
theorem xNt {args : List Operand} {k : Nat} {vs : List Value} {L r : List Pt} {Q : Value → Vw → List Pt → Prop} (hc : Call F lo k vs Z L Q) (ha : evsA A args = some vs) (hp : Pick O L r) (kk : ∀ v Z' O', ZL Z Z' → Q v Z' O' → ∀ O2, O2 = r ++ O' → K v Z' O2) : X F lo (.call (.func k) args) N A Z O K :=
  X_perm (xN hc ha hp fun v Z' O' hz hq O2 e => ⟨r ++ O', by subst e; exact List.perm_append_comm, kk v Z' O' hz hq _ rfl⟩)
theorem xDt {fo : Operand} {args : List Operand} {k : Nat} {fs cs vs : List Value} {L r : List Pt} {Q : Value → Vw → List Pt → Prop} (hf : evA A fo = some (.func (.func k) ⟨fs⟩ ⟨cs⟩)) (ha : evsA A args = some vs) (hc : Call F lo k ((fs ++ vs) ++ cs) Z L Q) (hp : Pick O L r) (kk : ∀ v Z' O', ZL Z Z' → Q v Z' O' → ∀ O2, O2 = r ++ O' → K v Z' O2) : X F lo (.call fo args) N A Z O K :=
  X_perm (xD hf ha hc hp fun v Z' O' hz hq O2 e => ⟨r ++ O', by subst e; exact List.perm_append_comm, kk v Z' O' hz hq _ rfl⟩)
end
/-- What a function is that is told each cell of an array that is read. -/
def SeeOK {S : Type} (F : Nat → Option HFn) (lo fk : Nat) (caps : List Value) (L : S → List (Int × Int) → List Pt) (Z0 : Vw) : Prop := ∀ Z, Z0.le Z → ∀ (s : S) (evs : List (Int × Int)) (x y : Int), evs.length < 100000 → Call F lo fk (([] ++ [.int .i64 x, .int .i64 y]) ++ caps) Z (L s evs) fun _ _ O' => ∃ s', O' = L s' (evs ++ [(x, y)])
theorem evsE_len {w : Int} {vs : List Vr} {sts : List (List Int)} : ∀ e : Ex, (evsE w vs sts e).length ≤ e.size := by
  intro e
  induction e using Ex.ind with
  | h op n c ks ih =>
    have key : ∀ l : List Ex, (∀ a ∈ l, a ∈ ks) → (evsL w vs sts l).length ≤ Ex.sizeL l := by
      intro l
      induction l with
      | nil => intro _; simp [evsL, Ex.sizeL]
      | cons a l ihl =>
        intro h
        have h1 := ih a (h a (by simp))
        have h2 := ihl fun b hb => h b (by simp [hb])
        rw [evsL, Ex.sizeL, List.length_append]
        omega
    have := key ks fun a ha => ha
    rw [evsE, Ex.size, List.length_append]
    split <;> simp <;> omega
theorem evsL_len {w : Int} {vs : List Vr} {sts : List (List Int)} : ∀ l : List Ex, (evsL w vs sts l).length ≤ Ex.sizeL l
  | [] => by simp [evsL, Ex.sizeL]
  | a :: l => by
    have h1 := evsE_len (w := w) (vs := vs) (sts := sts) a
    have h2 := evsL_len (w := w) (vs := vs) (sts := sts) l
    rw [evsL, Ex.sizeL, List.length_append]; omega
theorem evsT_mk {w : Int} {vs : List Vr} {sts : List (List Int)} {op n c : Int} {v : Value} {ks : List Et} : evsE w vs sts (Et.mk op n c v ks).er = evsL w vs sts (ks.map Et.er) ++ (if op = 1 ∧ 0 < ks.length then [(n, valE w vs sts (ks.getD 0 default).er % (vs.getD n.toNat default).cs)] else []) := by
  rw [Et.er_mk, evsE, valL_eq, List.length_map]
  congr 1
  by_cases h : op = 1 ∧ 0 < ks.length
  · rw [if_pos h, if_pos h, map_get (by simpa using h.2), map_get h.2]
  · rw [if_neg h, if_neg h]
theorem evsT_take {w : Int} {vs : List Vr} {sts : List (List Int)} {ks : List Et} {i : Nat} (h : i < ks.length) : evsL w vs sts ((ks.map Et.er).take (i + 1)) = evsL w vs sts ((ks.map Et.er).take i) ++ evsE w vs sts (ks.getD i default).er := by
  rw [evsL_take (by simpa using h), map_get h]
theorem cv_eq {l : List Int} {i j : Nat} (h : j < i) (h2 : i = l.length) : cv l i j = l.getD j default := by unfold cv; rw [if_pos h]
theorem cv_wrd {w : Int} {l : List Int} (hw : widP w) (h : ∀ j, j < l.length → wrdP w (l.getD j default)) {i : Nat} (hi : i ≤ l.length) (j : Nat) : wrdP w (cv l i j) := by
  unfold cv
  split
  · exact h j (by omega)
  · exact wrd_zero hw
set_option maxHeartbeats 4000000 in
theorem isStore_ok (lo : Nat) {Z : Vw} {w k : Int} {vv vst : Value} {vs : List Vr} {l : List Int} (hH : headP w vs) (hv : Vrs Z vv vs) [hl : IntsL Z vst l] (hlen : l.length < 9223372036854775808) : CallP F lo 46 [.agg ⟨[.int .i64 w, vv, .int .i64 k]⟩, vst] Z fun r _ => ∃ b, r = .bool b ∧ (b = true ↔ storeP w vs l) := by
  have hl := hl.out
  have hpw := pow_w hH.1.1 hH.1.2
  have hw1 := hH.1.1
  have hw2 := hH.1.2
  have hl1 := hH.2.1
  have hl2 := hH.2.2.1
  refine FnP (fn := c46) rfl rfl rfl ?_
  (refine W_seq ?_; (refine W_rgn ?_; ((refine Ra rfl (xBox rfl (fun b2 => ?_))) <;> (refine Ra rfl (X_mv rfl ?_)) <;> (refine R_nil ?_))) <;> ((refine thenQ_nrm ?_; (refine W_seq ?_; (refine W_rgn ?_; ((refine Ra rfl (X_mv rfl ?_)) <;> (refine R_nil ?_))) <;> ((refine thenQ_nrm ?_; (refine W_seq ?_; (refine W_seq ?_; (refine W_rgn ?_; ((refine Ra rfl (X_faddr rfl ?_)) <;> (refine Ra rfl (X_load (lB rfl rfl) ?_)) <;> (refine Ra rfl (xLen rfl ?_)) <;> (refine Ra rfl (X_mv rfl ?_)) <;> (refine R_nil ?_))) <;> ((refine thenQ_nrm ?_; (refine W_block ?_; ((
      refine wLoop (fun i : Nat => [(13, .int .i64 i), (5, .int .i64 (firstV vs i))]) (fun i => [.box b2 [.int .i64 w, vv, .int .i64 k]]) (fun i Zi => i ≤ vs.length) (fun i => vs.length - i) 0 (by repeat' (first | exact trivial | exact rfl | constructor)) (Upd.done ⟨Nat.zero_le _, (hB rfl Has.nil)⟩) ?_
      intro i Z1 hz1 hp
      have hb := firstV_le (vs := vs) (v := i) (fun j hj hj2 => hH.2.2.2.1 j hj2) (by omega)
      have hb2 : i < vs.length → 1 ≤ (vs.getD i default).cs ∧ (vs.getD i default).cs ≤ 8 := fun h => by
        obtain ⟨_, _, _, q1, q2, _⟩ := hH.2.2.2.1 i h
        exact ⟨q1, q2⟩) <;> (refine W_seq ?_; (refine W_rgn ?_; ((refine Ra rfl (X_lss rfl rfl (fun _ => ?_) (fun _ => ?_))) <;> (refine R_nil ?_))) <;> ((refine thenQ_nrm ?_; (refine W_seq ?_; (refine W_cond rfl (fun ht => ?_) (fun ht => ?_) <;> (first | exact absurd ht (by decide) | (refine W_skip ?_) | (refine W_exit ?_))) <;> (first | refine thenQ_ext ?_ | (refine thenQ_nrm ?_; (refine W_seq ?_; (refine W_block ?_; (refine W_seq ?_; (refine W_rgn ?_; ((refine Ra rfl (xIa rfl rfl (by omega) (by omega) ?_)) <;> (refine Ra rfl (X_load (lEA rfl (by omega)) ?_)) <;> (refine Ra rfl (X_alloc (fun b7 => ?_))) <;> (refine Rn (xSW rfl rfl rfl rfl ?_)) <;> (refine R_nil ?_))) <;> ((refine thenQ_nrm ?_; (refine W_rgn ?_; ((refine Ra rfl (X_mv rfl ?_)) <;> (refine Ra rfl (X_faddr rfl ?_)) <;> (refine Ra rfl (X_load (lB rfl rfl) ?_)) <;> (refine Ra rfl (X_addI rfl rfl (by omega) (by omega) ?_)) <;> (refine Ra rfl (X_mv rfl ?_)) <;> (refine R_nil ?_)))))) <;> (refine blockQ_nrm ?_)) <;> ((refine thenQ_nrm ?_; (refine W_rgn ?_; ((refine Ra rfl (X_addI rfl rfl (by omega) (by omega) ?_)) <;> (refine Ra rfl (X_mv rfl ?_)) <;> (refine R_nil ?_)))))))))))) <;> (first | refine thenQ_ext ?_ | (refine thenQ_nrm ?_; (
        refine Upd.done ⟨i + 1, by omega, by omega, ?_, hB rfl Has.nil⟩
        rw [firstV_succ (by omega)]
        exact (by repeat' (first | exact trivial | exact rfl | constructor)))))) <;> (refine blockQ_ext ?_))))) <;> ((refine thenQ_nrm ?_; (refine W_seq ?_; (refine W_seq ?_; (refine W_rgn ?_; ((refine Ra rfl (X_mv rfl ?_)) <;> (refine Ra rfl (xLen rfl ?_)) <;> (refine Ra rfl (X_mv rfl ?_)) <;> (refine Ra rfl (X_neq rfl rfl (fun _ => ?_) (fun _ => ?_))) <;> (refine R_nil ?_))) <;> ((refine thenQ_nrm ?_; (refine W_cond rfl (fun ht => ?_) (fun ht => ?_) <;> (first | exact absurd ht (by decide) | (refine W_seq ?_; (refine W_rgn ?_; ((refine Ra rfl (X_mv rfl ?_)) <;> (refine R_nil ?_))) <;> ((refine thenQ_nrm ?_; (refine W_ret ?_)))) | (refine W_skip ?_)))))) <;> (first | refine thenQ_ret ?_ | (refine thenQ_nrm ?_; (refine W_seq ?_; (refine W_seq ?_; (refine W_rgn ?_; ((refine Ra rfl (X_mv rfl ?_)) <;> (refine Ra rfl (xLen rfl ?_)) <;> (refine Ra rfl (X_mv rfl ?_)) <;> (refine R_nil ?_))) <;> ((refine thenQ_nrm ?_; (refine W_block ?_; ((
      refine wLoop (fun m : Nat => [(28, .int .i64 m)]) (fun m => [.box b2 [.int .i64 w, vv, .int .i64 k]]) (fun m Zi => m ≤ l.length ∧ ∀ j, j < m → wrdP w (l.getD j default)) (fun m => l.length - m) 0 (by repeat' (first | exact trivial | exact rfl | constructor)) (Upd.done ⟨⟨Nat.zero_le _, fun j hj => absurd hj (by omega)⟩, (hB rfl Has.nil)⟩) ?_
      intro m Z1 hz1 hp
      obtain ⟨hm, hpm⟩ := hp) <;> (refine W_seq ?_; (refine W_rgn ?_; ((refine Ra rfl (X_lss rfl rfl (fun _ => ?_) (fun _ => ?_))) <;> (refine R_nil ?_))) <;> ((refine thenQ_nrm ?_; (refine W_seq ?_; (refine W_cond rfl (fun ht => ?_) (fun ht => ?_) <;> (first | exact absurd ht (by decide) | (refine W_skip ?_) | (refine W_exit ?_))) <;> (first | refine thenQ_ext ?_ | (refine thenQ_nrm ?_; (refine W_seq ?_; (refine W_block ?_; (refine W_seq ?_; (refine W_rgn ?_; ((refine Ra rfl (xIa rfl rfl (by omega) (by omega) ?_)) <;> (refine Ra rfl (X_load (lE0 rfl (by omega) rfl) ?_)) <;> (refine Ra rfl (X_mv rfl ?_)) <;> (refine R_nil ?_))) <;> ((refine thenQ_nrm ?_; (refine W_seq ?_; (refine W_rgn ?_; ((refine Ra rfl (X_mv rfl ?_)) <;> (refine Ra rfl (X_lss rfl rfl (fun _ => ?_) (fun _ => ?_))) <;> (refine Ra rfl (X_mv rfl ?_)) <;> (first | (refine Rb rfl rfl (X_mv rfl ?_)) | (refine Rc rfl rfl ?_)) <;> (first | (refine Rb rfl rfl (X_faddr rfl ?_)) | (refine Rc rfl rfl ?_)) <;> (first | (refine Rb rfl rfl (X_load (lB rfl rfl) ?_)) | (refine Rc rfl rfl ?_)) <;> (first | (refine Rb rfl rfl (X_convU rfl (by omega) (by omega) ?_)) | (refine Rc rfl rfl ?_)) <;> (first | (refine Rb rfl rfl (X_shlI rfl rfl (by omega) (by omega) (by omega) (by omega) ?_)) | (refine Rc rfl rfl ?_)) <;> (first | (refine Rb rfl rfl (X_geq rfl rfl (fun _ => ?_) (fun _ => ?_))) | (refine Rc rfl rfl ?_)) <;> (first | (refine Ra rfl (X_pickT rfl rfl ?_)) | (refine Ra rfl (X_pickF rfl rfl ?_))) <;> (refine R_nil ?_))) <;> ((refine thenQ_nrm ?_; (refine W_cond rfl (fun ht => ?_) (fun ht => ?_) <;> (first | exact absurd ht (by decide) | (refine W_seq ?_; (refine W_rgn ?_; ((refine Ra rfl (X_mv rfl ?_)) <;> (refine R_nil ?_))) <;> ((refine thenQ_nrm ?_; (refine W_ret ?_)))) | (refine W_skip ?_))))))))) <;> (first | refine blockQ_nrm ?_ | refine blockQ_ret ?_)) <;> (first | refine thenQ_ret ?_ | (refine thenQ_nrm ?_; (refine W_rgn ?_; ((refine Ra rfl (X_addI rfl rfl (by omega) (by omega) ?_)) <;> (refine Ra rfl (X_mv rfl ?_)) <;> (refine R_nil ?_)))))))))))) <;> (first | refine thenQ_ret ?_ | refine thenQ_ext ?_ | (refine thenQ_nrm ?_; (
        refine Upd.done ⟨m + 1, by omega, ⟨by omega, fun j hj => ?_⟩, (by repeat' (first | exact trivial | exact rfl | constructor)), hB rfl Has.nil⟩
        rcases Nat.lt_or_ge j m with h | h
        · exact hpm j h
        · obtain rfl : j = m := by omega
          unfold wrdP
          omega)))) <;> (first | refine blockQ_ret ?_ | refine blockQ_ext ?_))))) <;> (first | refine thenQ_ret ?_ | (refine thenQ_nrm ?_; (refine W_seq ?_; (refine W_rgn ?_; ((refine Ra rfl (X_mv rfl ?_)) <;> (refine R_nil ?_))) <;> ((refine thenQ_nrm ?_; (refine W_ret ?_)))))))))))))))))))
  <;> (refine fnP_ret (Res.tmp rfl Res.nil) ?_)
  all_goals
    refine ⟨_, rfl, ?_⟩
    have hi2 : i = vs.length := by omega
    subst hi2
    simp only [Bool.false_eq_true, false_iff, true_iff]
    first
      | exact ⟨by omega, fun j hj => hpm j (by omega)⟩
      | (rintro ⟨h1, h2⟩
         first
           | omega
           | (have q := h2 m (by omega)
              unfold wrdP at q
              omega))
set_option maxHeartbeats 4000000 in
theorem PFirst_ok (lo : Nat) {Z : Vw} {w k : Int} {vv : Value} {vs : List Vr} (n : Int) (hH : headP w vs) (hv : Vrs Z vv vs) (h0 : 0 ≤ n) (h1 : n ≤ vs.length) : CallP F lo 79 [.agg ⟨[.int .i64 w, vv, .int .i64 k]⟩, .int .i64 n] Z fun r _ => r = .int .i64 (firstV vs n.toNat) := by
  have hl1 := hH.2.1
  have hl2 := hH.2.2.1
  refine FnP (fn := c79) rfl rfl rfl ?_
  (refine W_seq ?_; (refine W_rgn ?_; ((refine Ra rfl (xBox rfl (fun b2 => ?_))) <;> (refine Ra rfl (X_mv rfl ?_)) <;> (refine R_nil ?_))) <;> ((refine thenQ_nrm ?_; (refine W_seq ?_; (refine W_rgn ?_; ((refine Ra rfl (X_mv rfl ?_)) <;> (refine R_nil ?_))) <;> ((refine thenQ_nrm ?_; (refine W_seq ?_; (refine W_seq ?_; (refine W_rgn ?_; ((refine Ra rfl (X_faddr rfl ?_)) <;> (refine Ra rfl (X_load (lB rfl rfl) ?_)) <;> (refine Ra rfl (X_mv rfl ?_)) <;> (refine Ra rfl (xSlT (l := vs) rfl rfl (by omega) (by omega) (fun v11 hf11 => ?_))) <;> (refine Ra rfl (xLen rfl ?_)) <;> (refine Ra rfl (X_mv rfl ?_)) <;> (refine R_nil ?_))) <;> ((refine thenQ_nrm ?_; (refine W_block ?_; ((
      refine wLoop (fun i : Nat => [(13, .int .i64 i), (5, .int .i64 (firstV vs i))]) (fun i => [.box b2 [.int .i64 w, vv, .int .i64 k]]) (fun i Zi => i ≤ n.toNat) (fun i => n.toNat - i) 0 (by repeat' (first | exact trivial | exact rfl | constructor)) (Upd.done ⟨Nat.zero_le _, (hB rfl Has.nil)⟩) ?_
      intro i Z1 hz1 hp
      have hb := firstV_le (vs := vs) (v := i) (fun j hj hj2 => hH.2.2.2.1 j hj2) (by omega)
      have hb2 : i < vs.length → 1 ≤ (vs.getD i default).cs ∧ (vs.getD i default).cs ≤ 8 := fun h => by
        obtain ⟨_, _, _, q1, q2, _⟩ := hH.2.2.2.1 i h
        exact ⟨q1, q2⟩
      have hlt : (vs.take n.toNat).length = n.toNat := by rw [List.length_take]; omega
      have hgt : i < n.toNat → (vs.take n.toNat).getD i default = vs.getD i default := fun h => by
        rw [List.getD_eq_getElem?_getD, List.getElem?_take_of_lt h, ← List.getD_eq_getElem?_getD]) <;> (refine W_seq ?_; (refine W_rgn ?_; ((refine Ra rfl (X_lss rfl rfl (fun _ => ?_) (fun _ => ?_))) <;> (refine R_nil ?_))) <;> ((refine thenQ_nrm ?_; (refine W_seq ?_; (refine W_cond rfl (fun ht => ?_) (fun ht => ?_) <;> (first | exact absurd ht (by decide) | (refine W_skip ?_) | (refine W_exit ?_))) <;> (first | refine thenQ_ext ?_ | (refine thenQ_nrm ?_; (refine W_seq ?_; (refine W_block ?_; (refine W_seq ?_; (refine W_rgn ?_; ((refine Ra rfl (xIa rfl rfl (by omega) (by omega) ?_)) <;> (refine Ra rfl (X_load (lEA rfl (by omega)) ?_); (rw [hgt (by omega)])) <;> (refine Ra rfl (X_alloc (fun b7 => ?_))) <;> (refine Rn (xSW rfl rfl rfl rfl ?_)) <;> (refine R_nil ?_))) <;> ((refine thenQ_nrm ?_; (refine W_rgn ?_; ((refine Ra rfl (X_mv rfl ?_)) <;> (refine Ra rfl (X_faddr rfl ?_)) <;> (refine Ra rfl (X_load (lB rfl rfl) ?_)) <;> (refine Ra rfl (X_addI rfl rfl (by omega) (by omega) ?_)) <;> (refine Ra rfl (X_mv rfl ?_)) <;> (refine R_nil ?_)))))) <;> (refine blockQ_nrm ?_)) <;> ((refine thenQ_nrm ?_; (refine W_rgn ?_; ((refine Ra rfl (X_addI rfl rfl (by omega) (by omega) ?_)) <;> (refine Ra rfl (X_mv rfl ?_)) <;> (refine R_nil ?_)))))))))))) <;> (first | refine thenQ_ext ?_ | (refine thenQ_nrm ?_; (
        refine Upd.done ⟨i + 1, by omega, by omega, ?_, hB rfl Has.nil⟩
        rw [firstV_succ (by omega)]
        exact (by repeat' (first | exact trivial | exact rfl | constructor)))))) <;> (refine blockQ_ext ?_))))) <;> ((refine thenQ_nrm ?_; (refine W_seq ?_; (refine W_rgn ?_; ((refine Ra rfl (X_mv rfl ?_)) <;> (refine Ra rfl (X_mv rfl ?_)) <;> (refine R_nil ?_))) <;> ((refine thenQ_nrm ?_; (refine W_ret ?_)))))))))))))
  <;> (refine fnP_ret (Res.tmp rfl Res.nil) ?_)
  all_goals
    have hi2 : i = n.toNat := by omega
    subst hi2
    rfl
end Go.Proofs.Ytlidnionbofkaaa.Hm.V
