/- The whole: what H's run of a function gives, the machine's call gives, in whatever memory, at every order and every capacity. -/
import Derived.Test.YtbjgnogcjglcoaaHZd
namespace Go.Proofs.Ytbjgnogcjglcoaa.Hm
open Go Go.RowKit
set_option linter.all false
set_option linter.unusedSimpArgs false
section
variable {lo n0 : Nat} {w0 : World} {P : Program}
/-- Regions in the text's order. -/
theorem rops_ok {call : Nat → List Value → Heap → Option (Value × Heap)} (hcall : CallOK P lo n0 w0 call) {ops : Array Oper} {Q : Exit → Act → World → Prop} {ρs : Rho} {hs : Heap} {ws : World} {σf : List Value} {hf : Heap}
    (hQ : ∀ a' w' ρ', Inv lo n0 w0 ρ' hf w' → Ext ρs ρ' hs hf ws w' → VRl ρ' w' σf a'.tmps.toList → a'.defers = [] → Q .normal a' w') :
    ∀ (k i : Nat), i + k = ops.size → ∀ (l : List HOper), compOps P ops (ops.toList.drop i) = some l → ∀ (σ : List Value) (h : Heap) (a : Act) (w : World) (ρ : Rho), Inv lo n0 w0 ρ h w → Ext ρs ρ hs h ws w → VRl ρ w σ a.tmps.toList → a.defers = [] →
      rops call lo l σ h = some (σf, hf) → wpOps P ops Q (List.range' i k) a w
  | 0, i, hik, l, hl, σ, h, a, w, ρ, hI, hE, hV, hd, hr => by
    rw [List.drop_eq_nil_of_le (by simp; omega)] at hl
    cases hl
    simp only [rops] at hr; cases hr
    simp only [List.range'_zero, wpOps]
    exact hQ a w ρ hI hE hV hd
  | k + 1, i, hik, l, hl, σ, h, a, w, ρ, hI, hE, hV, hd, hr => by
    have hlt : i < ops.toList.length := by simp; omega
    rw [List.drop_eq_getElem_cons hlt] at hl
    simp only [compOps] at hl
    split at hl
    · rename_i ho l2 hco hl2
      cases hl
      simp only [rops] at hr
      split at hr
      · rename_i σ1 h1 hst
        rw [List.range'_succ, wpOps_cons]
        have hoi : ops[i]? = some ops.toList[i] := by
          have : i < ops.size := by simpa using hlt
          simp [this]
        have hlen : σ.length = a.tmps.size := by have := hV.1; simpa using this
        have hrel : ∀ t, VR ρ w (σ.getD t undef) (a.tmps.getD t undef) := fun t => by rw [getD_toList]; exact hV.getD t
        have hw := wanted_eq hco hlen (fun t b _ => hrel t)
        obtain ⟨hcop, hdst, _⟩ := compOper_inv hco
        have hput : ∀ {ρ' : Rho} {w' : World} {v v' : Value}, VRl ρ' w' σ a.tmps.toList → VR ρ' w' v v' → VRl ρ' w' (putD σ ho.dst v) (a.put ops.toList[i].dst v').tmps.toList := by
          intro ρ' w' v v' h2 h3
          rw [← hdst]
          cases ho.dst with
          | none => exact h2
          | some d =>
            simp only [putD, Act.put, Array.toList_setIfInBounds]
            exact h2.set d h3
        unfold wpOp
        rw [hoi]
        simp only [hw]
        unfold step1 at hst
        by_cases hwt : wantedH σ ho.guard = true
        · rw [if_pos hwt] at hst ⊢
          left
          split at hst
          · rename_i v h2 hx
            cases hst
            refine oper_names hcall hI hco a (fun t _ => hrel t) hx fun v' w' ρ' k1 k2 k3 => ?_
            rw [hdst]
            exact rops_ok hcall hQ k (i + 1) (by omega) l2 hl2 _ _ _ w' ρ' k1 (hE.trans k2) (hput (hV.mono k2.le k2.sz) k3) (by rw [put_dfr]; exact hd) hr
          · cases hst
        · rw [if_neg hwt] at hst ⊢
          cases hst
          exact rops_ok hcall hQ k (i + 1) (by omega) l2 hl2 _ _ _ w ρ hI hE (hput hV (VR.undef _ _)) (by rw [put_dfr]; exact hd) hr
      · cases hr
    · cases hl
/-- Regions whose order is open. -/
theorem drw_ok {call : Nat → List Value → Heap → Option (Value × Heap)} (hcall : CallOK P lo n0 w0 call) {ops : Array Oper} {l : List HOper} (hl : compOps P ops ops.toList = some l)
    (hok : (schedOK ops.toList l (befs ops.toList) (effsOf l (befs ops.toList)) [] (schedOf l (befs ops.toList)) && befOK ops.toList (befs ops.toList) && namesOK l (befs ops.toList) (effsOf l (befs ops.toList))) = true)
    {Q : Exit → Act → World → Prop} {σ σf : List Value} {h hf : Heap} {a : Act} {w : World} {ρ : Rho} (hI : Inv lo n0 w0 ρ h w) (hV : VRl ρ w σ a.tmps.toList) (hd : a.defers = []) (hr : drws call lo l (schedOf l (befs ops.toList)) σ h = some (σf, hf))
    (hQ : ∀ a' w' ρ', Inv lo n0 w0 ρ' hf w' → Ext ρ ρ' h hf w w' → VRl ρ' w' σf a'.tmps.toList → a'.defers = [] → Q .normal a' w') :
    wpAny P .any ops Q ops.size (Array.replicate ops.size false) a w := by
  simp only [Bool.and_eq_true] at hok
  obtain ⟨⟨h1, h2⟩, h3⟩ := hok
  let R : Reg P lo n0 w0 := ⟨ops, l, befs ops.toList, effsOf l (befs ops.toList), call, hcall, hl, h2, h3⟩
  have hP : PInv R ρ h w σf hf (fun _ => false) (fun _ => 0) [] (schedOf l (befs ops.toList)) σ h a w ρ :=
    ⟨hI, Ext.refl _ _ _, by have := hV.1; simpa using this, hd, hr, h1, fun _ _ => rfl, fun i hi => absurd hi (by simp), fun i hi => (by cases hi), fun i hi => (by cases hi), fun t _ => by rw [getD_toList]; exact hV.getD t, fun i hi => absurd hi (by simp), fun i hi => absurd hi (by simp), fun i hi => absurd hi (by simp), fun i hi => absurd hi (by simp), fun i hi => absurd hi (by simp), fun i hi => absurd hi (by simp)⟩
  obtain ⟨phi, done, todo, σ', hc', hP', hhd⟩ := adv _ _ _ _ _ hP
  refine any_ok (R := R) hQ _ _ _ _ _ _ _ _ _ _ _ (by simp; rfl) (fun i => ?_) (by show ops.size ≤ ops.size + _; omega) hP' hhd
  simp only [Array.getD_eq_getD_getElem?, Array.getElem?_replicate]
  split <;> rfl
def exitOf : Out → Exit
  | .nrm => .normal
  | .ret => .ret
  | .ext id => .exit id
/-- What holds behind a piece of code. -/
def Post (lo n0 : Nat) (w0 : World) (ρ : Rho) (h : Heap) (w : World) (out : Out) (σ' : List Value) (h' : Heap) (e : Exit) (a' : Act) (w' : World) : Prop :=
  e = exitOf out ∧ ∃ ρ', Inv lo n0 w0 ρ' h' w' ∧ Ext ρ ρ' h h' w w' ∧ VRl ρ' w' σ' a'.tmps.toList ∧ a'.defers = []
theorem Post.trans {ρ ρ1 : Rho} {h h1 : Heap} {w w1 : World} {out : Out} {σ' : List Value} {h' : Heap} {e : Exit} {a' : Act} {w' : World} (hE : Ext ρ ρ1 h h1 w w1) (hp : Post lo n0 w0 ρ1 h1 w1 out σ' h' e a' w') : Post lo n0 w0 ρ h w out σ' h' e a' w' := by
  obtain ⟨h2, ρ2, h3, h4, h5, h6⟩ := hp
  exact ⟨h2, ρ2, h3, hE.trans h4, h5, h6⟩
theorem wp_loop_n {c : Code} {Q : Exit → Act → World → Prop} {a : Act} {w : World} (I : Nat → Act → World → Prop) (n : Nat) (h0 : I n a w)
    (round : ∀ n a w, I n a w → c.wp P (Exit.then (fun a' w' => ∃ m, m < n ∧ I m a' w') Q) a w) : (Code.loop c).wp P Q a w := by
  intro b k cs
  have key : ∀ n a w, I n a w → ∃ e a' w', Q e a' w' ∧ Arrives P (lone (b.at a (.code c :: .inLoop c :: k)) cs w) b k cs e a' w' := by
    intro n
    induction n using Nat.strongRecOn with
    | _ n ih =>
      intro a w hI
      obtain ⟨e, a₁, w₁, hq, harr⟩ := round n a w hI b (.inLoop c :: k) cs
      cases e with
      | normal =>
        obtain ⟨m, hlt, hI₁⟩ := hq
        obtain ⟨e₂, a₂, w₂, hq₂, harr₂⟩ := ih m hlt a₁ w₁ hI₁
        exact ⟨e₂, a₂, w₂, hq₂, .of_steps (Steps.trans harr (.one step_inLoop)) harr₂⟩
      | exit id => exact ⟨_, a₁, w₁, hq, .pass (x := .inLoop c) rfl (fun _ _ => .inl (by simp)) harr⟩
      | goto l => exact ⟨_, a₁, w₁, hq, .pass (x := .inLoop c) rfl (fun _ _ => .inl (by simp)) harr⟩
      | ret => exact ⟨_, a₁, w₁, hq, .pass (x := .inLoop c) rfl (fun _ _ => .inl (by simp)) harr⟩
      | panic ch => exact ⟨_, a₁, w₁, hq, .pass (x := .inLoop c) rfl (fun _ _ => .inl (by simp)) harr⟩
      | outgrown => exact ⟨_, a₁, w₁, hq, .pass (x := .inLoop c) rfl (fun _ _ => .inl (by simp)) harr⟩
  obtain ⟨e, a', w', hq, harr⟩ := key n a w h0
  exact ⟨e, a', w', hq, .of_steps (.one step_loop) harr⟩
def rvar (tmps : Array Value) : ResultVar → Sem Value
  | .tmp t => pure (tmps.getD t undef)
  | .cell a t => do loadVar t (← asAddr (tmps.getD a undef))
theorem ress_ok {ρ : Rho} {h : Heap} {w : World} (hI : Inv lo n0 w0 ρ h w) {σ : List Value} {tmps : Array Value} (hV : VRl ρ w σ tmps.toList) : ∀ (rs : List ResultVar) (hr : List (Nat × Option (Option Nat))) (l : List Value), compRes P rs = some hr → ress h σ hr = some l →
    ∃ l', (rs.mapM (rvar tmps)).run P w = .ok l' w ∧ VRl ρ w l l'
  | [], hr, l, hc, hl => by
    cases hc; simp only [ress] at hl; cases hl
    exact ⟨[], by simp, .nil _ _⟩
  | .tmp t :: rs, hr, l, hc, hl => by
    simp only [compRes] at hc
    obtain ⟨hr2, hc2, rfl⟩ := Option.map_eq_some_iff.1 hc
    simp only [ress, resOf] at hl
    split at hl
    · rename_i v vs hv hvs
      cases hv; cases hl
      obtain ⟨l2, k1, k2⟩ := ress_ok hI hV rs hr2 vs hc2 hvs
      refine ⟨tmps.getD t undef :: l2, ?_, .cons (by rw [getD_toList]; exact hV.getD t) k2⟩
      have hr1 : (rvar tmps (.tmp t)).run P w = Result.ok (tmps.getD t undef) w := rfl
      rw [List.mapM_cons, Sem.run_bind, hr1]
      simp only [Result.andThen_ok, Sem.run_bind, k1, Sem.run_pure]
    · cases hl
  | .cell a t :: rs, hr, l, hc, hl => by
    simp only [compRes] at hc
    split at hc
    · rename_i n g hr2 hn hg hc2
      cases hc
      simp only [ress] at hl
      split at hl
      · rename_i v vs hv hvs
        cases hl
        obtain ⟨l2, k1, k2⟩ := ress_ok hI hV rs hr2 vs hc2 hvs
        simp only [resOf] at hv
        split at hv
        · rename_i b o hb
          have va : VR ρ w (σ.getD a undef) (tmps.getD a undef) := by rw [getD_toList]; exact hV.getD a
          rw [hb] at va
          obtain ⟨r, s, hrr, hρ⟩ := ptr_inv va
          have key : ∃ v', (loadVar t ⟨r, s + o, none⟩).run P w = .ok v' w ∧ VR ρ w v v' := by
            cases g with
            | none =>
              simp only at hv
              obtain ⟨v', q1, q2, _⟩ := hI.rd1 (P := P) hρ hv
              exact ⟨v', by simp only [loadVar, Sem.run_bind, run_agg hg, Result.andThen_ok, Option.isSome_none, Bool.false_eq_true, if_false, q1], q2⟩
            | some m =>
              have hm := agg_size hg
              rw [hn] at hm; cases hm
              simp only at hv
              obtain ⟨cs, hcs, rfl⟩ := Option.map_eq_some_iff.1 hv
              obtain ⟨l', q1, q2, _, q4, _⟩ := hI.rd (P := P) hρ hcs
              exact ⟨.agg l', by simp only [loadVar, Sem.run_bind, run_agg hg, Result.andThen_ok, Option.isSome_some, if_true, run_size hn, q1, Sem.run_pure], VR.aggL q2 q4⟩
          obtain ⟨v', q1, q2⟩ := key
          refine ⟨v' :: l2, ?_, .cons q2 k2⟩
          have hr1 : (rvar tmps (.cell a t)).run P w = Result.ok v' w := by
            show (Sem.bind (asAddr (tmps.getD a undef)) fun z => loadVar t z).run P w = _
            rw [hrr]
            exact q1
          rw [List.mapM_cons, Sem.run_bind, hr1]
          simp only [Sem.run_pure, Result.andThen_ok, Sem.run_bind, k1]
        · cases hv
      · cases hl
    · cases hc
theorem results_ok {ρ : Rho} {h : Heap} {w : World} (hI : Inv lo n0 w0 ρ h w) {σ : List Value} {tmps : Array Value} (hV : VRl ρ w σ tmps.toList) {fn : Func} {hr : List (Nat × Option (Option Nat))} {l : List Value} (hc : compRes P fn.results.toList = some hr) (hl : ress h σ hr = some l) :
    ∃ v', (results fn tmps).run P w = .ok v' w ∧ VR ρ w (tupled l) v' := by
  obtain ⟨l', k1, k2⟩ := ress_ok (P := P) hI hV _ _ _ hc hl
  unfold results
  rw [Sem.run_bind, Array.mapM_eq_mapM_toList, Sem.run_map]
  have hfun : ∀ f : ResultVar → Sem Value, (∀ r, f r = rvar tmps r) → (List.mapM f fn.results.toList).run P w = Result.ok l' w := fun f hf => by rw [show f = rvar tmps from funext hf]; exact k1
  rw [hfun _ (fun r => by cases r <;> rfl)]
  simp only [Result.andThen_ok, Sem.run_pure]
  refine ⟨_, rfl, ?_⟩
  cases l with
  | nil =>
    have : l' = [] := List.length_eq_zero_iff.1 (by have := k2.1; simpa using this.symm)
    subst this
    simp only [List.size_toArray, List.length_nil]
    exact .tupL (.nil _ _)
  | cons v rest =>
    cases rest with
    | nil =>
      obtain ⟨v', rfl⟩ : ∃ v', l' = [v'] := by
        have := k2.1
        cases l' with
        | nil => cases this
        | cons x xs => cases xs with
          | nil => exact ⟨x, rfl⟩
          | cons y ys => simp at this
      have := k2.2 0 (by simp)
      simpa [tupled] using this
    | cons v2 rest =>
      have hlen := k2.1
      have hne : ¬ (l'.toArray.size = 1) := by simp at hlen ⊢; omega
      rw [dif_neg hne]
      exact .tupL (by simpa using k2)
end
end Go.Proofs.Ytbjgnogcjglcoaa.Hm
