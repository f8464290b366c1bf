/- The frame of a law: its arguments laid as rows, H's run of it, the row's statement. -/
import Derived.Test.YtbjgnogcjglcoaaHLay
import Derived.Test.YtbjgnogcjglcoaaHPb
import Derived.Test.YtbjgnogcjglcoaaChecked
import Derived.WalkKit
import Derived.ProofKit
import Derived.OpenShut
import Derived.ShutString
import Derived.ChangeOld
import Derived.Below
import Derived.SizedLaws
namespace Go.Proofs.Ytbjgnogcjglcoaa.Hm
open Go Go.RowKit Go.ChangeShapes Go.WideShapes
set_option linter.all false
set_option linter.unusedSimpArgs false
def isAgg (P : Program) (t : TypeId) : Bool := match P.underlying t with
  | some (.struct _) | some (.array _ _) => true
  | _ => false
/-- An argument, told over H's heap. -/
inductive TA {D : Type} (P : Program) (h : Heap) : TypeId → Value → DataW D → Prop
  | one (t : TypeId) (v : Value) (d : DataW D) (ha : isAgg P t = false) (k : TR P h t [v] d) : TA P h t v d
  | agg (t : TypeId) (cs : List Value) (d : DataW D) (ha : isAgg P t = true) (k : TR P h t cs d) : TA P h t (.agg ⟨cs⟩) d
theorem TA.le {D : Type} {P : Program} {h h' : Heap} (hh : h.le h') {t : TypeId} {v : Value} {d : DataW D} (k : TA P h t v d) : TA P h' t v d := by
  induction k with
  | one v d ha q => exact .one _ _ _ ha (q.le hh)
  | agg cs d ha q => exact .agg _ _ _ ha (q.le hh)
def TAs {D : Type} (P : Program) (h : Heap) : List TypeId → List Value → List (DataW D) → Prop
  | [], [], [] => True
  | t :: ts, v :: vs, d :: ds => TA P h t v d ∧ TAs P h ts vs ds
  | _, _, _ => False
theorem ok_cells {P : Program} {ts : List TypeId} {t : TypeId} {W : World} {base : Nat} {v : Value} (ht : tyOK P ts t = true) (hv : Value.okWide P W .any base t v) :
    (isAgg P t = false ∧ v.cells.toList = [v]) ∨ (isAgg P t = true ∧ ∃ cs, v = .agg cs) := by
  unfold tyOK at ht
  unfold isAgg
  unfold Value.okWide at hv
  split at ht
  · rename_i hu
    left
    simp only [hu] at hv ⊢
    refine ⟨by trivial, ?_⟩
    cases v <;> first | rfl | (simp [Cell.okWide, Cell.ok, hu] at hv)
  · rename_i k hu
    left
    simp only [hu] at hv ⊢
    refine ⟨by trivial, ?_⟩
    cases v <;> first | rfl | (simp [Cell.okWide, Cell.ok, hu] at hv)
  · rename_i hu
    left
    simp only [hu] at hv ⊢
    refine ⟨by trivial, ?_⟩
    cases v <;> first | rfl | (simp [Cell.okWide, Cell.ok, hu] at hv)
  · rename_i e hu
    left
    simp only [hu] at hv ⊢
    refine ⟨by trivial, ?_⟩
    cases v <;> first | rfl | (simp [Cell.okWide, Cell.ok, hu] at hv)
  · rename_i fs hu
    right
    simp only [hu] at hv ⊢
    obtain ⟨cs, rfl, _⟩ := hv
    exact ⟨by simp, cs, rfl⟩
  · rename_i n e hu
    right
    simp only [hu] at hv ⊢
    obtain ⟨cs, rfl, _⟩ := hv
    exact ⟨by simp, cs, rfl⟩
  · cases ht
section
variable {D : Type} {enc : TypeId × Value → D} {P : Program} {W : World} {ts : List TypeId}
theorem lay_all (hts : closedT P ts = true) : ∀ (ps : List TypeId) (vs : List Value) (ds : List (DataW D)) (pl : List MemPlace), DataW.TrodAll enc P W 0 (fun _ => true) true ps vs ds pl →
    (∀ t ∈ ps, ts.contains t = true) → (∀ (j : Nat) t v, ps[j]? = some t → vs[j]? = some v → ∃ base, Value.okWide P W .any base t v) → ∀ ρ h, Laid ρ h W →
    ∃ (ρ' : Rho) (h' : Heap) (hvs : List Value), Laid ρ' h' W ∧ h.le h' ∧ (∀ b x, ρ b = some x → ρ' b = some x) ∧ VRl ρ' W hvs vs ∧ TAs P h' ps hvs ds := by
  intro ps
  induction ps with
  | nil =>
    intro vs ds pl hA _ _ ρ h hl
    obtain ⟨rfl, rfl, rfl⟩ := trodAll_nil hA
    exact ⟨ρ, h, [], hl, .refl _, fun _ _ e => e, .nil _ _, trivial⟩
  | cons t ps ih =>
    intro vs ds pl hA hc hv ρ h hl
    obtain ⟨v, vs', d, ds', p, q, rfl, rfl, rfl, ⟨fuel, h1⟩, h2⟩ := trodAll_cons hA
    have hct := hc t (by simp)
    obtain ⟨base, hok⟩ := hv 0 t v rfl rfl
    obtain ⟨ρ1, h1', hcs, k1, k2, k3, k4, k5, k6⟩ := lay hts fuel t _ _ h1 hct ρ h hl
    obtain ⟨ρ2, h2', hvs, q1, q2, q3, q4, q5⟩ := ih vs' ds' q h2 (fun t ht => hc t (by simp [ht])) (fun j t v ht hv' => hv (j + 1) t v (by simpa using ht) (by simpa using hv')) ρ1 h1' k1
    have k4' := k4.mono q3 (fun r => Nat.le_refl (rowSize W r))
    rcases ok_cells (closedT_get hts hct) hok with ⟨ha, hcell⟩ | ⟨ha, cs, rfl⟩
    · rw [hcell] at k4'
      have hlen : hcs.length = 1 := k4'.1
      obtain ⟨x, rfl⟩ := List.length_eq_one_iff.1 hlen
      refine ⟨ρ2, h2', x :: hvs, q1, k2.trans q2, fun b x e => q3 _ _ (k3 _ _ e), .cons (by simpa using k4'.2 0 (by simp)) q4, .one _ _ _ ha (k6.le q2), q5⟩
    · refine ⟨ρ2, h2', .agg ⟨hcs⟩ :: hvs, q1, k2.trans q2, fun b x e => q3 _ _ (k3 _ _ e), .cons (VR.aggL k4' k5) q4, .agg _ _ _ ha (k6.le q2), q5⟩
theorem trodAll_kept (hl : laidOutB P = true) {W' : World} (hb : Below W.heap.size W W') : ∀ (ps : List TypeId) (vs : List Value) (ds : List (DataW D)) (pl : List MemPlace), (ps.all fun t => P.readableRec t && decide (t < P.types.size)) = true →
    DataW.TrodAll enc P W 0 (fun _ => true) true ps vs ds pl → DataW.TrodAll enc P W' 0 (fun b => decide (b < W.heap.size)) true ps vs ds pl := by
  intro ps
  induction ps with
  | nil =>
    intro vs ds pl _ hA
    obtain ⟨rfl, rfl, rfl⟩ := trodAll_nil hA
    exact trodAll_mk0
  | cons t ps ih =>
    intro vs ds pl hr hA
    obtain ⟨v, vs', d, ds', p, q, rfl, rfl, rfl, h1, h2⟩ := trodAll_cons hA
    simp only [List.all_cons, Bool.and_eq_true, decide_eq_true_eq] at hr
    have hlt : ∀ x ∈ p, x.block < W.heap.size := by obtain ⟨m, hm⟩ := h1; exact DataW.trod_lt m _ _ _ hm
    exact trodAll_cons_mk (Below.trod hl hr.1.1 hr.1.2 h1 hb hlt) (ih vs' ds' q (by simpa using hr.2) h2)
/-- What H's run of a law says, the machine's call says. -/
theorem law_calls {F : Nat → Option HFn} (hF : FOK P F) (hmix : P.follows .mixedOrders = true) (hts : closedT P ts = true) {k : Nat} {ps : List TypeId} {args : Array Value} {ds : List (DataW D)} {pl : List MemPlace}
    (hA : DataW.TrodAll enc P W 0 (fun _ => true) true ps args.toList ds pl) (hc : ∀ t ∈ ps, ts.contains t = true) (hv : ∀ (j : Nat) t v, ps[j]? = some t → args.toList[j]? = some v → ∃ base, Value.okWide P W .any base t v)
    (hlaw : ∀ h vs, (∀ b x, h.get b = some x → ∃ cs, x = .row cs none) → h.m = 0 → TAs P h ps vs ds → ∃ n v h', hcall F h.n n k vs h = some (v, h') ∧ v = .bool true) :
    Calls P k args W fun e W' => e = .returned (.bool true) ∧ Below W.heap.size W W' := by
  obtain ⟨ρ, h, vs, k1, _, _, k4, k5⟩ := lay_all hts ps args.toList ds pl hA hc hv _ _ (Laid.empty W)
  obtain ⟨n, v, h', hc', hv'⟩ := hlaw h vs k1.plain k1.m0 k5
  subst hv'
  refine (calls_h hF hmix hc' k1.inv k4).mono fun e w' hp => ?_
  obtain ⟨v', ρ', rfl, q1, q2, q3⟩ := hp
  exact ⟨by rw [VR.bool_inv q3], q1.below⟩
end
theorem law_lifted {C : Checked} {os : Os} {f : FuncId} {fn : Func} {s : ChangeSpec} {conds : List PathCond} {D : Type} {enc : TypeId × Value → D} {F : Nat → Option HFn} {ts : List TypeId} {tb : TypeId}
    (own : ownKnob C.prog.godebug = none) (started : os.Started) (noInit : C.prog.inits.idxOf? f = none) (hfn : C.prog.funcs[f]? = some fn)
    (witness : ∃ (w : World) (tape : Tape) (i : Input), w.os = os ∧ (w.forCall tape i).Shaped C.prog ∧ i.vars = [] ∧ Input.okWide C.prog (w.forCall tape i) .any w.heap.size f i ∧
      s.pre6 enc C.prog fn conds false (w.forCall tape i).memory i.args ∧ ({} : Assume).holds C.prog (lone (Frame.enter C.prog f i.args .normal) [] (w.forCall tape i)))
    (hvars : s.vars = []) (hres : fn.resultTypes.toList = [tb]) (hb : C.prog.underlying tb = some .bool) (hs : ∀ ds : List (DataW D), ds.length = fn.params.size → s.fn D ds = { results := [.lit (.bool true)], args := ds })
    (hlaid : laidOutB C.prog = true) (hread : (fn.params.toList.all fun t => C.prog.readableRec t && decide (t < C.prog.types.size)) = true)
    (hF : FOK C.prog F) (hmix : C.prog.follows .mixedOrders = true) (hts : closedT C.prog ts = true) (hps : (fn.params.toList.all fun t => ts.contains t) = true)
    (hlaw : ∀ (ds : List (DataW D)) h vs, (∀ b x, h.get b = some x → ∃ cs, x = .row cs none) → h.m = 0 → TAs C.prog h fn.params.toList vs ds → ∃ n v h', hcall F h.n n f vs h = some (v, h') ∧ v = .bool true) :
    ReturnsInHanded {} C os f .any (s.pre6 enc C.prog fn conds false) (s.post enc C.prog fn false true false false) := by
  refine returnsInHanded_of_change_sized own started noInit hfn witness ?_
  intro W base args ds gs before hval hW _ _ _
  have hW' := hW
  obtain ⟨p, q, hA, hV, rfl, hfz, hnd⟩ := hW
  rw [hvars] at hV
  obtain ⟨rfl, rfl⟩ := trodVars_none hV
  have hlen : ds.length = fn.params.size := by
    have : ∀ (ps : List TypeId) (vs : List Value) (ds : List (DataW D)) (pl : List MemPlace), DataW.TrodAll enc C.prog W 0 (fun _ => true) true ps vs ds pl → ds.length = ps.length := by
      intro ps
      induction ps with
      | nil => intro vs ds pl h; obtain ⟨_, rfl, _⟩ := trodAll_nil h; rfl
      | cons t ps ih =>
        intro vs ds pl h
        obtain ⟨v, vs', d, ds', p, q, rfl, rfl, rfl, _, h2⟩ := trodAll_cons h
        simp [ih _ _ _ h2]
    simpa using this _ _ _ _ hA
  refine (law_calls (k := f) hF hmix hts hA (fun t ht => List.all_eq_true.1 hps t ht) (fun j t v ht hv => ⟨base, hval j t v (by simpa using ht) (by simpa using hv)⟩) (hlaw ds)).mono fun e W' ⟨he, bel⟩ => ?_
  subst he
  have hsf : s.fn D (ds ++ []) = { results := [.lit (.bool true)], args := ds } := by rw [List.append_nil]; exact hs ds hlen
  refine ⟨_, rfl, ds, [], _, [], p, [], hW', ?_, ?_, ?_, bel.frame _, fun h => by cases h⟩
  · rw [hsf, hres]
    have : (Value.bool true).resultList fn.resultTypes.size = [.bool true] := by
      have : fn.resultTypes.size = 1 := by rw [← Array.length_toList, hres]; rfl
      rw [this]; rfl
    rw [this]
    exact trodAll_mk1 (shut_bool hb _)
  · rw [hsf]; exact trodAll_kept hlaid bel _ _ _ _ hread hA
  · rw [hsf, hvars]; rfl
end Go.Proofs.Ytbjgnogcjglcoaa.Hm
