/- Regions whose order is open: words for the proof that any order does what H's does. -/
import Derived.Test.YtbjgnogcjglcoaaHZb
namespace Go.Proofs.Ytbjgnogcjglcoaa.Hm
open Go Go.RowKit
set_option linter.all false
set_option linter.unusedSimpArgs false
section
variable {lo n0 : Nat} {w0 : World} {ρ : Rho} {h h' : Heap} {w : World} {P : Program} {σ σ' : List Value}
theorem compOps_get {ops : Array Oper} : ∀ {l0 : List Oper} {l : List HOper}, compOps P ops l0 = some l → l.length = l0.length ∧ ∀ (i : Nat) (o : Oper), l0[i]? = some o → ∃ ho, l[i]? = some ho ∧ compOper P ops o = some ho
  | [], l, h => by cases h; exact ⟨rfl, fun i o ho => by simp at ho⟩
  | o :: os, l, h => by
    simp only [compOps] at h
    split at h
    · rename_i a b ha hb
      cases h
      obtain ⟨h1, h2⟩ := compOps_get hb
      refine ⟨by simp [h1], fun i x hx => ?_⟩
      cases i with
      | zero => simp at hx; subst hx; exact ⟨a, rfl, ha⟩
      | succ i => exact h2 i x (by simpa using hx)
    · cases h
theorem compOper_inv {ops : Array Oper} {o : Oper} {ho : HOper} (h : compOper P ops o = some ho) : compOp P o.type o.op = some ho.op ∧ ho.dst = o.dst ∧
    ((o.guard = none ∧ ho.guard = none) ∨ ∃ j b d, o.guard = some (j, b) ∧ (ops[j]?).bind (·.dst) = some d ∧ ho.guard = some (d, b)) := by
  unfold compOper at h
  split at h
  · cases h
  · rename_i op hop
    split at h
    · rename_i hg; cases h; exact ⟨hop, rfl, .inl ⟨hg, rfl⟩⟩
    · rename_i j b hg
      split at h
      · rename_i d hd; cases h; exact ⟨hop, rfl, .inr ⟨j, b, d, hg, hd, rfl⟩⟩
      · cases h
theorem wanted_eq {ops : Array Oper} {o : Oper} {ho : HOper} (h : compOper P ops o = some ho) {tmps : Array Value} (hl : σ.length = tmps.size) (hv : ∀ t b, ho.guard = some (t, b) → VR ρ w (σ.getD t undef) (tmps.getD t undef)) :
    Region.wanted o (yielded ops tmps) = wantedH σ ho.guard := by
  obtain ⟨_, _, hg⟩ := compOper_inv h
  rcases hg with ⟨h1, h2⟩ | ⟨j, b, d, h1, h2, h3⟩
  · simp [Region.wanted, wantedH, h1, h2]
  · have hv := hv d b h3
    unfold Region.wanted wantedH yielded
    simp only [h1, h3, h2, Option.bind_some]
    by_cases hd : d < σ.length
    · have hd2 : d < tmps.size := hl ▸ hd
      rw [List.getElem?_eq_getElem hd, Array.getElem?_eq_getElem hd2]
      simp only [List.getD_eq_getElem?_getD, List.getElem?_eq_getElem hd, Array.getD_eq_getD_getElem?, Array.getElem?_eq_getElem hd2, Option.getD_some] at hv
      generalize σ[d] = x at hv
      generalize tmps[d] = y at hv
      cases hv <;> first | rfl | (rename_i c; cases c <;> cases b <;> rfl)
    · rw [List.getElem?_eq_none (Nat.le_of_not_lt hd), Array.getElem?_eq_none (by rw [← hl]; exact Nat.le_of_not_lt hd)]
      rfl
def mask (ns : List Nat) (σ : List Value) : List Value := (List.range σ.length).map fun t => if ns.contains t then σ.getD t undef else undef
theorem mask_get (ns : List Nat) (σ : List Value) (t : Nat) : (mask ns σ).getD t undef = if ns.contains t then σ.getD t undef else undef := by
  unfold mask
  simp only [List.getD_eq_getElem?_getD, List.getElem?_map]
  by_cases h : t < σ.length
  · rw [List.getElem?_range h]; simp
  · rw [List.getElem?_eq_none (by simp; omega), List.getElem?_eq_none (by omega)]; simp
theorem ev_mask {ho : HOper} {x : Operand} (hx : x ∈ ho.op.reads) : ev σ x = ev (mask ho.names σ) x := by
  cases x with
  | tmp t =>
    have : ho.names.contains t = true := by
      simp only [List.contains_iff_mem]
      exact List.mem_append.2 (.inl (mem_tmps hx rfl))
    simp only [ev, mask_get, this, if_true]
  | const v => rfl
  | global g => rfl
  | func f => rfl
def maskE (ns : List Nat) (a : Act) (x : Operand) : Value := match x with
  | .tmp t => if ns.contains t then a.tmps.getD t undef else undef
  | x => a.eval x
theorem execOp_mask {ops : Array Oper} {o : Oper} {ho : HOper} (h : compOper P ops o = some ho) (a : Act) : execOp a.eval o = execOp (maskE ho.names a) o := by
  obtain ⟨hc, _, _⟩ := compOper_inv h
  refine execOp_congr o (fun cs b e => by rw [e] at hc; cases hc) fun x hx => ?_
  have hr := operands_reads hc x (by simpa using hx)
  cases x with
  | tmp t =>
    have : ho.names.contains t = true := by
      simp only [List.contains_iff_mem]
      exact List.mem_append.2 (.inl (mem_tmps hr rfl))
    simp only [maskE, this, if_true, Act.eval]
  | const v => rfl
  | global g => rfl
  | func f => rfl
theorem mask_vr {ho : HOper} {a : Act} (hrel : ∀ t ∈ ho.names, VR ρ w (σ.getD t undef) (a.tmps.getD t undef)) : ∀ x, okOp x = true → VR ρ w (ev (mask ho.names σ) x) (maskE ho.names a x) := by
  intro x hx
  cases x with
  | tmp t =>
    simp only [ev, mask_get, maskE]
    split
    · rename_i hc
      exact hrel t (by simpa using hc)
    · exact VR.undef _ _
  | const v => exact VR.plainV hx
  | global g => cases hx
  | func f => exact .fn _ _ _ _ _ rfl rfl (fun i hi => absurd hi (by simp)) (fun i hi => absurd hi (by simp))
theorem oper_names {call : Nat → List Value → Heap → Option (Value × Heap)} (hcall : CallOK P lo n0 w0 call) (hI : Inv lo n0 w0 ρ h w) {ops : Array Oper} {o : Oper} {ho : HOper} (hco : compOper P ops o = some ho) (a : Act)
    (hrel : ∀ t ∈ ho.names, VR ρ w (σ.getD t undef) (a.tmps.getD t undef)) {v : Value} (hx : xoper call lo σ h ho.op = some (v, h')) {K : Act → World → Prop} {Q : Exit → Act → World → Prop}
    (hK : ∀ v' w' ρ', Inv lo n0 w0 ρ' h' w' → Ext ρ ρ' h h' w w' → VR ρ' w' v v' → K (a.put ho.dst v') w') : o.wp P a w K Q := by
  obtain ⟨hc, hd, _⟩ := compOper_inv hco
  rw [xoper_congr (σ' := mask ho.names σ) fun x hx => ev_mask hx] at hx
  exact oper_wp hcall hI o a (mask_vr hrel) (execOp_mask hco a) hc hx (fun v' w' ρ' h1 h2 h3 => by rw [← hd]; exact hK v' w' ρ' h1 h2 h3)
theorem alcOf_congr {op : HOp} (he : ∀ x ∈ op.reads, ev σ x = ev σ' x) : alcOf σ op = alcOf σ' op := by
  cases op <;> simp only [HOp.reads, List.mem_cons, List.not_mem_nil, or_false, forall_eq_or_imp, forall_eq] at he <;> simp only [alcOf]
  case box x => rw [he]
  case bslice e n z ps =>
    have : (ps.map fun p => (p.1 * e, e, ev σ p.2)) = ps.map fun p => (p.1 * e, e, ev σ' p.2) := List.map_congr_left fun p hp => by rw [he p.2 (List.mem_map.2 ⟨p, hp, rfl⟩)]
    rw [this]
  case mkslice => rw [he.1, he.2]
theorem alc_names {ops : Array Oper} {o : Oper} {ho : HOper} (hco : compOper P ops o = some ho) (a : Act) (hrel : ∀ t ∈ ho.names, VR ρ w (σ.getD t undef) (a.tmps.getD t undef)) {b : HB} {mk : Nat → Value} (ha : alcOf σ ho.op = some (b, mk)) :
    ∃ (obj : Obj) (mkR : Nat → Value), (execOp a.eval o).run P w = .ok (.value (mkR w.heap.size)) (w.alloc obj) ∧ ObjR ρ w b obj ∧ ∀ (ρ' : Rho) (w' : World) (c r : Nat), ρ' c = some (r, 0) → VR ρ' w' (mk c) (mkR r) := by
  obtain ⟨hc, hd, _⟩ := compOper_inv hco
  rw [alcOf_congr (σ' := mask ho.names σ) fun x hx => ev_mask hx] at ha
  rw [execOp_mask hco a]
  exact alc_run (mask_vr hrel) o hc ha
/-! ### what a quiet operation gives does not hang on what others do -/
theorem xop_same {op : HOp} (hk : op.kd = .pur ∨ op.kd = .lod) {v : Value} (hx : xop lo σ h op = some (v, h')) : h' = h := by
  cases op <;> (try (rcases hk with hk | hk <;> cases hk; done)) <;> simp only [xop] at hx
  all_goals repeat' (first
    | (cases hx; rfl)
    | (cases hx; done)
    | (obtain ⟨_, _, e⟩ := Option.map_eq_some_iff.1 hx; cases e; rfl)
    | split at hx)
theorem xop_pur {op : HOp} (hk : op.kd = .pur) {v : Value} {h1 : Heap} (hx : xop lo σ h op = some (v, h1)) (h2 : Heap) : xop lo σ h2 op = some (v, h2) := by
  cases op <;> (try (cases hk; done)) <;> simp only [xop] at hx ⊢
  all_goals repeat' (first
    | (cases hx; rfl)
    | (cases hx; done)
    | (obtain ⟨u, hu, e⟩ := Option.map_eq_some_iff.1 hx; cases e; rw [hu]; rfl)
    | (obtain ⟨u, hu, e⟩ := Option.map_eq_some_iff.1 hx; cases e; rename_i hcond; rw [if_pos hcond, hu]; rfl)
    | (rename_i hcond; cases hx; rw [if_pos hcond])
    | split at hx)
theorem rd_ext {h2 : Heap} (hg : ∀ b x, h.get b = some x → h2.get b = some x) (hc : ∀ c x, h.cl c = some x → h2.cl c = some x) {b : Nat} {cs : List Value} (h1 : h.cells b = some cs) : h2.cells b = some cs := by
  rcases Heap.cells_some h1 with h3 | ⟨c, t, fl, h3, h4, h5⟩
  · unfold Heap.cells; rw [hg _ _ h3]
  · unfold Heap.cells; rw [hg _ _ h3]; simp only [hc _ _ h4]; rw [if_pos h5]
theorem xop_ext {op : HOp} (hk : op.kd = .pur ∨ op.kd = .lod) {h2 : Heap} (hg : ∀ b x, h.get b = some x → h2.get b = some x) (hc : ∀ c x, h.cl c = some x → h2.cl c = some x) {v : Value} {h1 : Heap} (hx : xop lo σ h op = some (v, h1)) : xop lo σ h2 op = some (v, h2) := by
  rcases hk with hk | hk
  · exact xop_pur hk hx h2
  · cases op <;> (try (cases hk; done)) <;> simp only [xop] at hx ⊢
    · rename_i agg a
      split at hx
      · rename_i b o hb
        cases agg with
        | none =>
          simp only at hx ⊢
          obtain ⟨u, hu, e⟩ := Option.map_eq_some_iff.1 hx; cases e
          unfold Heap.rd1 at hu ⊢
          split at hu
          · rename_i cs hcs; rw [rd_ext hg hc hcs]; simp only [hu]; rfl
          · cases hu
        | some n =>
          simp only at hx ⊢
          obtain ⟨u, hu, e⟩ := Option.map_eq_some_iff.1 hx; cases e
          unfold Heap.rd at hu ⊢
          split at hu
          · rename_i cs hcs; rw [rd_ext hg hc hcs]; simp only [hu]; rfl
          · cases hu
      · cases hx
    · rename_i d z m k ok
      generalize ev σ m = mv at hx ⊢
      split at hx
      · cases hx
      · rename_i es hes
        have hes2 : h2.entries mv = some es := by
          unfold Heap.entries at hes ⊢
          split at hes
          · exact hes
          · split at hes
            · rename_i es2 t2 hgb; cases hes; simp only [hg _ _ hgb]
            · cases hes
          · cases hes
        rw [hes2]
        simp only
        split at hx
        · rename_i hk2
          rw [if_pos hk2]
          split at hx
          · cases hx; rfl
          · cases hx; rfl
          · cases hx
        · cases hx
    · rename_i x
      split at hx
      · cases hx; rfl
      · rename_i b hb
        split at hx
        · rename_i es t hgb; cases hx; simp only [hg _ _ hgb]
        · cases hx
      · cases hx
theorem get_pushB (h : Heap) (b : HB) (x : Nat) : (h.pushB b).get x = if x = h.n then some b else h.get x := Heap.get_push h b _ _ x
theorem Inv.pushB (hI : Inv lo n0 w0 ρ h w) {b : HB} (hb : ∀ cs c, b ≠ .row cs (some c)) : Inv lo n0 w0 ρ (h.pushB b) w :=
  hI.push b rfl (get_pushB h b) (fun _ _ => rfl) (fun cs c e => absurd e (hb cs c)) (fun cs c e => absurd e (hb cs c))
theorem same0_eq {a b : Value} (h : same0 a b = true) : a = b := by
  cases a <;> cases b <;> simp only [same0] at h <;> (try (cases h; done)) <;> first
    | rfl
    | (simp at h; simp [h]; done)
    | (rename_i x y; simp only [decide_eq_true_eq] at h; obtain ⟨⟨x⟩⟩ := x; obtain ⟨⟨y⟩⟩ := y; simp only at h; rw [h])
theorem sameL_eq : ∀ {a b : List Value}, sameL a b = true → a = b
  | [], [], _ => rfl
  | [], _ :: _, h => by cases h
  | _ :: _, [], h => by cases h
  | a :: as, b :: bs, h => by
    simp only [sameL, Bool.and_eq_true] at h
    rw [same0_eq h.1, sameL_eq h.2]
theorem sameV_eq {a b : Value} (h : sameV a b = true) : a = b := by
  unfold sameV at h
  split at h
  · rw [Array.toList_inj.1 (sameL_eq h)]
  · rw [Array.toList_inj.1 (sameL_eq h)]
  · exact same0_eq h
theorem recheck_mem {l : List HOper} : ∀ {js : List Nat}, recheck lo l σ h js = true → ∀ j ∈ js, ∃ o, l[j]? = some o ∧ (wantedH σ o.guard = true → ∃ d v h1, o.dst = some d ∧ xop lo σ h o.op = some (v, h1) ∧ σ.getD d undef = v)
  | [], _, j, hj => by cases hj
  | i :: js, hr, j, hj => by
    simp only [recheck, Bool.and_eq_true] at hr
    cases hj with
    | tail _ hj => exact recheck_mem hr.2 j hj
    | head =>
      have h1 := hr.1
      split at h1
      · rename_i o ho
        refine ⟨o, ho, fun hw => ?_⟩
        rw [if_pos hw] at h1
        split at h1
        · rename_i d v hh hd hx
          exact ⟨d, v, hh, hd, hx, sameV_eq h1⟩
        · cases h1
      · cases h1
theorem getD_set_ne {σ : List Value} {d t : Nat} {v : Value} (h : d ≠ t) : (σ.set d v).getD t undef = σ.getD t undef := by
  simp only [List.getD_eq_getElem?_getD, List.getElem?_set_ne h]
theorem getD_set_eq {σ : List Value} {d : Nat} {v : Value} (h : d < σ.length) : (σ.set d v).getD d undef = v := by
  simp [List.getD_eq_getElem?_getD, h]
theorem putD_len (σ : List Value) (d : Option Nat) (v : Value) : (putD σ d v).length = σ.length := by cases d <;> simp [putD]
theorem putD_ne {σ : List Value} {d : Option Nat} {t : Nat} {v : Value} (h : d ≠ some t) : (putD σ d v).getD t undef = σ.getD t undef := by
  cases d with
  | none => rfl
  | some d => exact getD_set_ne (fun e => h (by rw [e]))
theorem put_ne {a : Act} {d : Option Tmp} {t : Nat} {v : Value} (h : d ≠ some t) : (a.put d v).tmps.getD t undef = a.tmps.getD t undef := by
  cases d with
  | none => rfl
  | some d =>
    have hne : d ≠ t := fun e => h (by rw [e])
    simp [Act.put, Array.getD_eq_getD_getElem?, Array.getElem?_setIfInBounds_ne hne]
theorem put_eq {a : Act} {t : Nat} {v : Value} (h : t < a.tmps.size) : (a.put (some t) v).tmps.getD t undef = v := by
  simp [Act.put, Array.getD_eq_getD_getElem?, h]
theorem put_size (a : Act) (d : Option Tmp) (v : Value) : (a.put d v).tmps.size = a.tmps.size := by cases d <;> simp [Act.put]
theorem put_dfr (a : Act) (d : Option Tmp) (v : Value) : (a.put d v).defers = a.defers := by cases d <;> rfl
theorem wanted_same {g : Option (Nat × Bool)} (h : ∀ t b, g = some (t, b) → σ.getD t undef = σ'.getD t undef) (hl : σ.length = σ'.length) : wantedH σ g = wantedH σ' g := by
  cases g with
  | none => rfl
  | some p =>
    obtain ⟨t, b⟩ := p
    have h := h t b rfl
    unfold wantedH
    simp only
    by_cases ht : t < σ.length
    · have ht2 : t < σ'.length := hl ▸ ht
      simp only [List.getD_eq_getElem?_getD, List.getElem?_eq_getElem ht, List.getElem?_eq_getElem ht2, Option.getD_some] at h ⊢
      rw [h]
    · rw [List.getElem?_eq_none (by omega), List.getElem?_eq_none (by omega)]
end
end Go.Proofs.Ytbjgnogcjglcoaa.Hm
