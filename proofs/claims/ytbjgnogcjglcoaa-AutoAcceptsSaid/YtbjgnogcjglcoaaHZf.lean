/- What H's run of a function gives, the machine's call gives. -/
import Derived.Test.YtbjgnogcjglcoaaHZe
namespace Go.Proofs.Ytbjgnogcjglcoaa.Hm
open Go Go.RowKit
set_option linter.all false
set_option linter.unusedSimpArgs false
/-- The table of H's functions holds the program's own. -/
def PrimOK (P : Program) (k : Nat) (p : Nat → List Value → Heap → Option (Value × Heap)) : Prop := ∀ lo n0 w0, CallOK P lo n0 w0 fun f vs h => if f = k then p lo vs h else none
def FOK (P : Program) (F : Nat → Option HFn) : Prop := ∀ k fn, F k = some fn → compFn P k = some fn ∨ ∃ p, fn.prim = some p ∧ PrimOK P k p
section
variable {lo n0 : Nat} {w0 : World} {P : Program} {F : Nat → Option HFn}
def RunOK (P : Program) (lo n0 : Nat) (w0 : World) (F : Nat → Option HFn) (n : Nat) : Prop := ∀ code hc, comp P code = some hc → ∀ σ h out σ' h', run F lo n hc σ h = some (out, σ', h') →
  ∀ a w ρ, Inv lo n0 w0 ρ h w → VRl ρ w σ a.tmps.toList → a.defers = [] → code.wp P (Post lo n0 w0 ρ h w out σ' h') a w
theorem compFn_inv {k : Nat} {hf : HFn} (h : compFn P k = some hf) : ∃ fn c, P.funcs[k]? = some fn ∧ (fn.name == "runtime.NumGoroutine") = false ∧ fn.body = some c ∧ comp P c = some hf.body ∧ compRes P fn.results.toList = some hf.res ∧ hf.ntmps = fn.ntmps := by
  unfold compFn at h
  split at h
  · cases h
  · rename_i fn hfn
    split at h
    · cases h
    · rename_i hname
      split at h
      · cases h
      · rename_i c hb
        split at h
        · rename_i b r h1 h2
          cases h
          exact ⟨fn, c, hfn, by simpa using hname, hb, h1, h2, rfl⟩
        · cases h
theorem compFn_prim {k : Nat} {hf : HFn} (h : compFn P k = some hf) : hf.prim = none := by
  unfold compFn at h
  split at h
  · cases h
  · split at h
    · cases h
    · split at h
      · cases h
      · split at h
        · cases h; rfl
        · cases h
theorem callFunc_enter {f : FuncId} {fn : Func} {c : Code} (hf : P.funcs[f]? = some fn) (hname : (fn.name == "runtime.NumGoroutine") = false) (hb : fn.body = some c) (args : Array Value) (w : World) :
    (callFunc f args).run P w = .ok (.enter f args) w := by
  have h1 : fn.name ≠ "runtime.NumGoroutine" := by simpa using hname
  simp [callFunc, hf, h1, hb]
theorem VRl.slots {ρ : Rho} {w : World} {vs : List Value} {args : Array Value} (h : VRl ρ w vs args.toList) (n : Nat) : VRl ρ w (vs ++ List.replicate (n - vs.length) undef) (args ++ Array.replicate (n - args.size) undef).toList := by
  have hl : vs.length = args.size := by have := h.1; simpa using this
  rw [Array.toList_append, Array.toList_replicate, hl]
  refine h.append ⟨rfl, fun i hi => ?_⟩
  have : ∀ l : List Value, (∀ x ∈ l, x = undef) → l.getD i undef = undef := fun l hl => by
    rw [List.getD_eq_getElem?_getD]
    cases e : l[i]? with
    | none => rfl
    | some x => exact hl x (List.mem_of_getElem? e)
  rw [this _ fun x hx => (List.eq_of_mem_replicate hx)]
  exact VR.undef _ _
theorem hcall_ok (hF : FOK P F) {n : Nat} (hr : RunOK P lo n0 w0 F n) : CallOK P lo n0 w0 (hcall F lo n) := by
  intro k vs h v h' hc ρ w args hI hV
  unfold hcall at hc
  split at hc
  · cases hc
  · rename_i hf hFk
    rcases hF k hf hFk with hF1 | ⟨p, hp, hok⟩
    case inr =>
      rw [hp] at hc
      exact hok lo n0 w0 k vs h v h' (by simpa using hc) ρ w args hI hV
    obtain ⟨fn, c, h1, h2, h3, h4, h5, h6⟩ := compFn_inv hF1
    rw [compFn_prim hF1] at hc
    dsimp only at hc
    refine ⟨callFunc_enter h1 h2 h3 args w, ?_⟩
    have key : ∀ out σ' h1', run F lo n hf.body (vs ++ List.replicate (hf.ntmps - vs.length) undef) h = some (out, σ', h1') → (∀ id, out ≠ .ext id) → ∀ l, ress h1' σ' hf.res = some l → tupled l = v → h1' = h' →
        Calls P k args w fun e w' => ∃ v' ρ', e = .returned v' ∧ Inv lo n0 w0 ρ' h' w' ∧ Ext ρ ρ' h h' w w' ∧ VR ρ' w' v v' := by
      intro out σ' h1' hrun hne l hl hv hh
      subst hh; subst hv
      refine calls_of_wp h1 h3 ?_
      refine wp_mono (hr c _ h4 _ _ _ _ _ hrun { tmps := args ++ Array.replicate (fn.ntmps - args.size) undef, defers := [] } w ρ hI (by rw [h6]; exact hV.slots _) rfl) fun e a' w' hp => ?_
      obtain ⟨rfl, ρ', hI', hE, hV', hd⟩ := hp
      obtain ⟨v', k1, k2⟩ := results_ok hI' hV' h5 hl
      cases out with
      | ext id => exact absurd rfl (hne id)
      | nrm => exact ⟨hd, v', k1, v', ρ', rfl, hI', hE, k2⟩
      | ret => exact ⟨hd, v', k1, v', ρ', rfl, hI', hE, k2⟩
    split at hc
    · cases hc
    · rename_i out σ' h1' hne hrun
      obtain ⟨l, hl, he⟩ := Option.map_eq_some_iff.1 hc
      cases he
      exact key _ _ _ hrun (fun id he => hne id he) l hl rfl rfl
    · cases hc
theorem Ext.drew {ρ : Rho} {h : Heap} {w : World} : Ext ρ ρ h h w w.drew := ⟨fun _ _ e => e, fun _ => Nat.le_refl _, Nat.le_refl _, fun _ _ e => ⟨e, rfl⟩⟩
theorem VR.bool_inv {ρ : Rho} {w : World} {b : Bool} {y : Value} (h : VR ρ w (.bool b) y) : y = .bool b := by
  cases h; rfl
theorem eval_ev {ρ : Rho} {w : World} {σ : List Value} {a : Act} (hV : VRl ρ w σ a.tmps.toList) {x : Operand} (h : okOp x = true) : VR ρ w (ev σ x) (a.eval x) := by
  cases x with
  | tmp t => show VR ρ w (σ.getD t undef) (a.tmps.getD t undef); rw [getD_toList]; exact hV.getD t
  | const v => exact VR.plainV h
  | global g => cases h
  | func f => exact VR.fn _ _ _ _ _ rfl rfl (fun i hi => absurd hi (by simp)) (fun i hi => absurd hi (by simp))
theorem run_ok (hF : FOK P F) (hmix : P.follows .mixedOrders = true) : ∀ n, RunOK P lo n0 w0 F n := by
  intro n
  induction n using Nat.strongRecOn with
  | _ n ih =>
    intro code
    induction code with
    | skip =>
      intro hc hcomp σ h out σ' h' hr a w ρ hI hV hd
      cases hcomp
      cases n with
      | zero => cases hr
      | succ n => simp only [run] at hr; cases hr; exact wp_skip ⟨rfl, ρ, hI, Ext.refl _ _ _, hV, hd⟩
    | label l =>
      intro hc hcomp σ h out σ' h' hr a w ρ hI hV hd
      cases hcomp
      cases n with
      | zero => cases hr
      | succ n => simp only [run] at hr; cases hr; exact wp_label ⟨rfl, ρ, hI, Ext.refl _ _ _, hV, hd⟩
    | ret =>
      intro hc hcomp σ h out σ' h' hr a w ρ hI hV hd
      cases hcomp
      cases n with
      | zero => cases hr
      | succ n => simp only [run] at hr; cases hr; exact wp_ret ⟨rfl, ρ, hI, Ext.refl _ _ _, hV, hd⟩
    | exit id =>
      intro hc hcomp σ h out σ' h' hr a w ρ hI hV hd
      cases hcomp
      cases n with
      | zero => cases hr
      | succ n => simp only [run] at hr; cases hr; exact wp_exit ⟨rfl, ρ, hI, Ext.refl _ _ _, hV, hd⟩
    | goto l => intro hc hcomp; cases hcomp
    | refuse s => intro hc hcomp; cases hcomp
    | rangeFunc f ps x y _ _ => intro hc hcomp; cases hcomp
    | seq x y _ _ =>
      intro hc hcomp σ h out σ' h' hr a w ρ hI hV hd
      simp only [comp] at hcomp
      split at hcomp
      · rename_i hx hy ex ey
        cases hcomp
        cases n with
        | zero => cases hr
        | succ n =>
          simp only [run] at hr
          refine wp_seq ?_
          split at hr
          · rename_i σ1 h1 hr1
            refine wp_mono (ih n (by omega) x hx ex _ _ _ _ _ hr1 a w ρ hI hV hd) fun e a1 w1 hp => ?_
            obtain ⟨rfl, ρ1, k1, k2, k3, k4⟩ := hp
            exact wp_mono (ih n (by omega) y hy ey _ _ _ _ _ hr a1 w1 ρ1 k1 k3 k4) fun e a2 w2 hp => Post.trans k2 hp
          · rename_i r hne
            refine wp_mono (ih n (by omega) x hx ex _ _ _ _ _ hr a w ρ hI hV hd) fun e a1 w1 hp => ?_
            cases out with
            | nrm => exact absurd hr (hne _ _)
            | ret => obtain ⟨rfl, hp⟩ := hp; exact ⟨rfl, hp⟩
            | ext id => obtain ⟨rfl, hp⟩ := hp; exact ⟨rfl, hp⟩
      · cases hcomp
    | cond c x y _ _ =>
      intro hc hcomp σ h out σ' h' hr a w ρ hI hV hd
      simp only [comp] at hcomp
      split at hcomp
      · rename_i hok
        split at hcomp
        · rename_i hx hy ex ey
          cases hcomp
          cases n with
          | zero => cases hr
          | succ n =>
            simp only [run] at hr
            have hv := eval_ev (a := a) hV hok
            split at hr
            · rename_i hb
              rw [hb] at hv
              exact wp_cond_true (VR.bool_inv hv) (ih n (by omega) x hx ex _ _ _ _ _ hr a w ρ hI hV hd)
            · rename_i hb
              rw [hb] at hv
              exact wp_cond_false (VR.bool_inv hv) (ih n (by omega) y hy ey _ _ _ _ _ hr a w ρ hI hV hd)
            · cases hr
        · cases hcomp
      · cases hcomp
    | block id c _ =>
      intro hc hcomp σ h out σ' h' hr a w ρ hI hV hd
      simp only [comp] at hcomp
      obtain ⟨hb, eb, rfl⟩ := Option.map_eq_some_iff.1 hcomp
      cases n with
      | zero => cases hr
      | succ n =>
        simp only [run] at hr
        refine wp_block ?_
        split at hr
        · rename_i id' σ1 h1 hr1
          refine wp_mono (ih n (by omega) c hb eb _ _ _ _ _ hr1 a w ρ hI hV hd) fun e a1 w1 hp => ?_
          obtain ⟨rfl, hp⟩ := hp
          by_cases hid : id' = id
          · rw [if_pos hid] at hr; cases hr
            simp only [exitOf, Exit.inBlock, if_pos hid]
            exact ⟨rfl, hp⟩
          · rw [if_neg hid] at hr; cases hr
            simp only [exitOf, Exit.inBlock, if_neg hid]
            exact ⟨rfl, hp⟩
        · rename_i r hne
          refine wp_mono (ih n (by omega) c hb eb _ _ _ _ _ hr a w ρ hI hV hd) fun e a1 w1 hp => ?_
          obtain ⟨rfl, hp⟩ := hp
          cases out with
          | nrm => exact ⟨rfl, hp⟩
          | ret => exact ⟨rfl, hp⟩
          | ext id => exact absurd hr (hne _ _ _)
    | loop c _ =>
      intro hc hcomp σ h out σ' h' hr a w ρ hI hV hd
      simp only [comp] at hcomp
      obtain ⟨hb, eb, rfl⟩ := Option.map_eq_some_iff.1 hcomp
      refine wp_loop_n (fun m a1 w1 => m ≤ n ∧ ∃ σ1 h1 ρ1, run F lo m (.loop hb) σ1 h1 = some (out, σ', h') ∧ Inv lo n0 w0 ρ1 h1 w1 ∧ Ext ρ ρ1 h h1 w w1 ∧ VRl ρ1 w1 σ1 a1.tmps.toList ∧ a1.defers = []) n ⟨Nat.le_refl _, σ, h, ρ, hr, hI, Ext.refl _ _ _, hV, hd⟩ ?_
      intro m a1 w1 hm
      obtain ⟨hmn, σ1, h1, ρ1, hr1, hI1, hE1, hV1, hd1⟩ := hm
      cases m with
      | zero => cases hr1
      | succ m =>
        simp only [run] at hr1
        split at hr1
        · rename_i σ2 h2 hr2
          refine wp_mono (ih m (by omega) c hb eb _ _ _ _ _ hr2 a1 w1 ρ1 hI1 hV1 hd1) fun e a2 w2 hp => ?_
          obtain ⟨rfl, ρ2, k1, k2, k3, k4⟩ := hp
          exact ⟨m, Nat.lt_succ_self m, by omega, σ2, h2, ρ2, hr1, k1, hE1.trans k2, k3, k4⟩
        · rename_i r hne
          refine wp_mono (ih m (by omega) c hb eb _ _ _ _ _ hr1 a1 w1 ρ1 hI1 hV1 hd1) fun e a2 w2 hp => ?_
          have hq : Post lo n0 w0 ρ h w out σ' h' e a2 w2 := Post.trans hE1 hp
          cases out with
          | nrm => exact absurd hr1 (hne _ _)
          | ret => obtain ⟨he, hq⟩ := hq; exact he ▸ ⟨rfl, hq⟩
          | ext id => obtain ⟨he, hq⟩ := hq; exact he ▸ ⟨rfl, hq⟩
    | scope c ihc =>
      intro hc hcomp σ h out σ' h' hr a w ρ hI hV hd
      refine wp_scope_straight (wp_mono (ihc hc hcomp σ h out σ' h' hr a w ρ hI hV hd) fun e a1 w1 hp => ?_)
      obtain ⟨rfl, hp⟩ := hp
      cases out <;> exact ⟨rfl, hp⟩
    | region id ops draw =>
      intro hc hcomp σ h out σ' h' hr a w ρ hI hV hd
      simp only [comp] at hcomp
      split at hcomp
      · cases hcomp
      · rename_i l hl
        split at hcomp
        · rename_i hdraw
          subst hdraw
          split at hcomp
          · rename_i hok
            cases hcomp
            cases n with
            | zero => cases hr
            | succ n =>
              simp only [run] at hr
              obtain ⟨⟨σf, hf⟩, hr2, he⟩ := Option.map_eq_some_iff.1 hr
              cases he
              have hcall : CallOK P lo n0 w0 (hcall F lo n) := hcall_ok hF (ih n (by omega))
              refine wp_region_any hmix ?_
              refine drw_ok hcall hl hok (w := w.drew) hI.drew ((Ext.drew (h := h)).vrl hV) hd hr2 fun a' w' ρ' k1 k2 k3 k4 => ?_
              exact ⟨rfl, ρ', k1, Ext.drew.trans k2, k3, k4⟩
          · cases hcomp
        · rename_i hdraw
          have : draw = false := by simpa using hdraw
          subst this
          cases hcomp
          cases n with
          | zero => cases hr
          | succ n =>
            simp only [run] at hr
            obtain ⟨⟨σf, hf⟩, hr2, he⟩ := Option.map_eq_some_iff.1 hr
            cases he
            have hcall : CallOK P lo n0 w0 (hcall F lo n) := hcall_ok hF (ih n (by omega))
            refine wp_region ?_
            rw [List.range_eq_range']
            exact rops_ok hcall (ρs := ρ) (hs := h) (ws := w) (fun a' w' ρ' k1 k2 k3 k4 => ⟨rfl, ρ', k1, k2, k3, k4⟩) _ 0 (by omega) l (by simpa using hl) _ _ a w ρ hI (Ext.refl _ _ _) hV hd hr2
/-- A call of H's own: the machine's, in whatever memory. -/
theorem calls_h (hF : FOK P F) (hmix : P.follows .mixedOrders = true) {n k : Nat} {vs : List Value} {h h' : Heap} {v : Value} (hc : hcall F lo n k vs h = some (v, h')) {ρ : Rho} {w : World} {args : Array Value} (hI : Inv lo n0 w0 ρ h w) (hV : VRl ρ w vs args.toList) :
    Calls P k args w fun e w' => ∃ v' ρ', e = .returned v' ∧ Inv lo n0 w0 ρ' h' w' ∧ Ext ρ ρ' h h' w w' ∧ VR ρ' w' v v' :=
  (hcall_ok hF (run_ok hF hmix n) k vs h v h' hc ρ w args hI hV).2
end
end Go.Proofs.Ytbjgnogcjglcoaa.Hm
