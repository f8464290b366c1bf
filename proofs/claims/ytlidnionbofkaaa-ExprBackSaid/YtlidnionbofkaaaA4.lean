import Derived.Test.YtlidnionbofkaaaA3
import Derived.Recover
namespace Go.Proofs.Ytlidnionbofkaaa.Hm
noncomputable section
open Go Go.RowKit
set_option linter.all false
set_option linter.unusedSimpArgs false
def Heap.pushB (h : Heap) (b : HB) : Heap := { h with bs := b :: h.bs, n := h.n + 1 }
def alcOf (σ : List Value) : HOp → Option (HB × (Nat → Value))
  | .alloc z => some (.row z none, fun b => .pointer (some ⟨b, 0, none⟩))
  | .box x => (cellsV (ev σ x)).map fun cs => (.row cs none, fun b => .pointer (some ⟨b, 0, none⟩))
  | .bslice esz len z parts => (fillL (List.replicate len z).flatten (parts.map fun p => (p.1 * esz, esz, ev σ p.2))).map fun cs => (.row cs none, fun b => .slice (some ⟨b, 0, none⟩) len len)
  | .mkmap => some (.map [] 0, fun b => .map (some b))
  | .mkslice esz bytes zero l c => match ev σ l, ev σ c with
    | .int _ l, .int _ c => if 0 ≤ l ∧ l ≤ c ∧ c * bytes ≤ 2 ^ 47 then some (.row (List.replicate c.toNat zero).flatten none, fun b => .slice (some ⟨b, 0, none⟩) l.toNat c.toNat) else none
    | _, _ => none
  | _ => none
theorem xop_alc {lo : Nat} {σ : List Value} {h : Heap} {op : HOp} (hk : op.kd = .alc) : xop lo σ h op = (alcOf σ op).map fun p => (p.2 h.n, h.pushB p.1) := by
  cases op <;> (try (cases hk; done)) <;> simp only [xop, xopE, alcOf]
  · rfl
  · cases cellsV (ev σ _) <;> rfl
  · cases fillL _ _ <;> rfl
  · rfl
  · generalize ev σ _ = a
    generalize ev σ _ = b
    cases a <;> cases b <;> (try rfl)
    simp only
    split <;> rfl
section
variable {lo n0 : Nat} {w0 : World} {ρ : Rho} {h h' : Heap} {w : World} {P : Program} {σ : List Value} {e : Operand → Value} {hop : HOp}
def ObjR (ρ : Rho) (w : World) (b : HB) (o : Obj) : Prop :=
  (∀ cs k, b = .row cs k → k = none ∧ ∃ c t, o = .cells c t (0, 0) ∧ cs.length ≤ c.size ∧ ∀ i, i < cs.length → VR ρ w (cs.getD i undef) (c.getD i undef) ∧ cell1 (cs.getD i undef) = true) ∧
  (∀ es t, b = .map es t → es = [] ∧ t = 0 ∧ o = .map #[] 0) ∧ ∀ m t seen d, b ≠ .itr m t seen d
theorem ObjR.row {cs : List Value} {c : Array Value} (t : TypeId) (hv : VRl ρ w cs c.toList) (h1 : ∀ x ∈ cs, cell1 x = true) : ObjR ρ w (.row cs none) (.cells c t) := by
  obtain ⟨l1, l2⟩ := hv.row h1
  exact ⟨fun cs' k e => by cases e; exact ⟨rfl, c, t, rfl, l1, l2⟩, (fun es t e => by cases e), fun m t seen d e => by cases e⟩
theorem alc_run {b : HB} {mk : Nat → Value} (hσ : ∀ x, okOp x = true → VR ρ w (ev σ x) (e x)) (o : Oper) (hc : compOp P o.type o.op = some hop) (ha : alcOf σ hop = some (b, mk)) :
    ∃ (obj : Obj) (mkR : Nat → Value), (execOp e o).run P w = .ok (.value (mkR w.heap.size)) (w.alloc obj) ∧ ObjR ρ w b obj ∧ ∀ (ρ' : Rho) (w' : World) (c r : Nat), ρ' c = some (r, 0) → VR ρ' w' (mk c) (mkR r) := by
  obtain ⟨dst, op, type, pos, after, guard⟩ := o
  simp only at hc
  have ptr : ∀ (ρ' : Rho) (w' : World) (c r : Nat), ρ' c = some (r, 0) → VR ρ' w' (.pointer (some ⟨c, 0, none⟩)) (.pointer (some ⟨r, 0, none⟩)) := fun ρ' w' c r hr => by
    have := VR.ptr (w := w') c r 0 0 hr; simpa using this
  have slc : ∀ (len cap : Nat) (ρ' : Rho) (w' : World) (c r : Nat), ρ' c = some (r, 0) → VR ρ' w' (.slice (some ⟨c, 0, none⟩) len cap) (.slice (some ⟨r, 0, none⟩) len cap) := fun len cap ρ' w' c r hr => by
    have := VR.sle (w := w') c r 0 0 len cap hr; simpa using this
  cases op
  case alloc t =>
    simp only [compOp] at hc
    split at hc
    · rename_i z hz
      split at hc
      · rename_i hp
        cases hc; simp only [alcOf] at ha; cases ha
        obtain ⟨a, b⟩ := plainV_cells (ρ := ρ) (w := w) hp.1 (nt hp.2)
        refine ⟨.cells z.cells t, fun r => .pointer (some ⟨r, 0, none⟩), ?_, .row t a b, ptr⟩
        simp [execOp, Instr.alloc, run_zero hz, newVar, run_newRow]
      · cases hc
    · cases hc
  case box t x =>
    simp only [compOp] at hc
    split at hc
    · rename_i ho
      cases hc; simp only [alcOf] at ha
      obtain ⟨cs, hcs, e2⟩ := Option.map_eq_some_iff.1 ha
      cases e2
      obtain ⟨a, b⟩ := (hσ x ho).cells hcs
      refine ⟨.cells (e x).cells t, fun r => .pointer (some ⟨r, 0, none⟩), ?_, .row t a b, ptr⟩
      simp [execOp, Instr.box, newVar, run_newRow]
    · cases hc
  case buildSlice t len parts =>
    rw [ex_bslice]
    simp only [compOp] at hc
    split at hc
    · rename_i el hel
      split at hc
      · rename_i s z hs hz
        split at hc
        · rename_i hp
          obtain ⟨hp1, hp2, hp3, hp4, hp5, hp6⟩ := hp
          cases hc; simp only [alcOf] at ha
          obtain ⟨cs, hcs, e2⟩ := Option.map_eq_some_iff.1 ha
          cases e2
          obtain ⟨za, zb⟩ := plainV_cells (ρ := ρ) (w := w) hp1 (nt hp2)
          obtain ⟨r1, r2⟩ := zeros_row z.cells (by omega) len za zb
          rw [hp3] at r1
          have hpl : ∀ (ps : List (Nat × Operand)), okOps (ps.map (·.2)) = true → partsL (fun i => some (i * s, s)) ps = some (ps.map fun p => (p.1 * s, s, p.2)) := by
            intro ps
            induction ps with
            | nil => intro _; rfl
            | cons p ps ih =>
              intro ho
              simp only [List.map_cons, okOps, List.all_cons, Bool.and_eq_true] at ho
              obtain ⟨i, x⟩ := p
              simp only [partsL, ih ho.2, List.map_cons]
              rw [if_pos ho.1]
          have hcs' : fillL (List.replicate len z.cells.toList).flatten ((parts.toList.map fun p => (p.1 * s, s, p.2)).map fun p => (p.1, p.2.1, ev σ p.2.2)) = some cs := by
            rw [List.map_map]; exact hcs
          obtain ⟨r', k1, k2, k3, k4⟩ := fill_ok (place := fun i => some (i * s, s)) (fun i x hi => hi) hσ parts.toList _ (hpl _ hp6) _ _ cs r1 r2 hcs'
          have hrun : (Instr.buildSlice t len ⟨parts.toList.map fun p => (p.1, e p.2)⟩).run P w = .ok (.slice (some ⟨w.heap.size, 0, none⟩) len len) (w.alloc (.cells r' el)) := by
            unfold Instr.buildSlice
            have hnle : ¬ (len * s > 2 ^ 24) := Nat.not_lt.2 hp5
            rw [Sem.run_bind, run_under hel]
            simp only [Result.andThen_ok, Sem.run_bind, run_size hs, if_neg hnle]
            by_cases h0 : len * s = 0
            · have hl0 : len = 0 := by rcases Nat.mul_eq_zero.1 h0 with h | h <;> omega
              subst hl0
              have hr0 : Array.range 0 = #[] := by simp
              simp only [Nat.zero_mul, hr0, List.map_toArray, List.map_nil] at k1
              simp only [Nat.zero_mul, if_true, hr0, List.map_toArray, List.map_nil, Sem.run_pure, Result.andThen_ok, k1, Sem.run_bind, run_newRow]
            · simp only [if_neg h0, Sem.run_bind, run_zero hz, Sem.run_pure, Result.andThen_ok, hp3, k1, run_newRow]
          refine ⟨.cells r' el, fun r => .slice (some ⟨r, 0, none⟩) len len, ?_, .row el k2 k3, slc len len⟩
          rw [Sem.run_bind, hrun]; rfl
        · cases hc
      · cases hc
    · cases hc
  case makeMap t x =>
    cases x with
    | some y => cases hc
    | none =>
      cases hc; simp only [alcOf] at ha; cases ha
      refine ⟨.map #[] 0, fun r => .map (some r), rfl, ⟨(fun cs k q => by cases q), (fun es t q => by cases q; exact ⟨rfl, rfl, rfl⟩), fun m t seen d q => by cases q⟩, fun ρ' w' c r hr => .map _ _ hr⟩
  case makeSlice t l c =>
    simp only [compOp] at hc
    split at hc
    · rename_i ho
      have vl := hσ l (okOps_mem ho (by simp))
      have vc := hσ c (okOps_mem ho (by simp))
      split at hc
      · rename_i el hel
        split at hc
        · rename_i s b z hs hb hz
          split at hc
          · rename_i hp
            obtain ⟨hp1, hp2, hp3, hp4, hp5⟩ := hp
            cases hc; simp only [alcOf] at ha
            split at ha
            · rename_i q1 nl q2 nc hl hcc
              rw [hl] at vl; rw [hcc] at vc
              split at ha
              · rename_i hle
                obtain ⟨h0, h1, h2⟩ := hle
                cases ha
                obtain ⟨ml, rfl⟩ := Int.eq_ofNat_of_zero_le h0
                obtain ⟨mc, rfl⟩ := Int.eq_ofNat_of_zero_le (Int.le_trans h0 h1)
                have hmc : mc * b ≤ 2 ^ 47 := by exact_mod_cast h2
                have hmc2 : mc ≤ 2 ^ 47 := Nat.le_trans (Nat.le_mul_of_pos_right _ hp4) hmc
                obtain ⟨za, zb⟩ := plainV_cells (ρ := ρ) (w := w) hp1 (nt hp5)
                obtain ⟨r1, r2⟩ := zeros_row z.cells (by omega) mc za zb
                rw [hp2] at r1
                simp only [Int.toNat_natCast]
                obtain ⟨i, hi, hib⟩ := run_bytes (w := w) hb
                have hrun : (Instr.makeSlice t (e l) (e c)).run P w = .ok (.slice (some ⟨w.heap.size, 0, none⟩) ml mc) (w.alloc (.cells ((Array.range (mc * s)).map (z.cells[· % s]!)) el)) := by
                  rw [vl.of_int, vc.of_int]
                  unfold Instr.makeSlice
                  rw [Sem.run_bind, run_under hel]
                  have w1 : IntKind.i64.wrap (ml : Int) = ml := wrap_small (by omega) (by omega)
                  have w2 : IntKind.i64.wrap (mc : Int) = mc := wrap_small (by omega) (by omega)
                  have hbig : ¬ ((b : Int) * mc > 2 ^ 48) := by
                    have : (b : Int) * mc ≤ 2 ^ 47 := by rw [Int.mul_comm]; exact_mod_cast hmc
                    omega
                  simp only [Result.andThen_ok, Sem.run_bind, asInt, asIntOf, Sem.run_pure, hi, hib, w1, w2]
                  have hcond : ((decide ((mc : Int) < 0) || decide ((b : Int) * mc > 2 ^ 48)) || decide ((ml : Int) < 0) || decide ((ml : Int) > mc)) = false := by
                    simp only [Bool.or_eq_false_iff, decide_eq_false_iff_not]
                    refine ⟨⟨⟨by omega, hbig⟩, by omega⟩, by omega⟩
                  simp only [hcond, Bool.false_eq_true, if_false, Int.toNat_natCast, Sem.run_bind, run_askRoom, Result.andThen_ok, run_size hs]
                  by_cases hz0 : mc * s = 0
                  · have hm0 : mc = 0 := by rcases Nat.mul_eq_zero.1 hz0 with h | h <;> omega
                    subst hm0
                    have hr0 : Array.range 0 = #[] := by simp
                    simp only [Nat.zero_mul, if_true, hr0, List.map_toArray, List.map_nil, Sem.run_pure, Result.andThen_ok, Sem.run_bind, run_newRow]
                  · simp only [if_neg hz0, Sem.run_bind, run_zero hz, Sem.run_pure, Result.andThen_ok, hp2, run_newRow]
                refine ⟨.cells ((Array.range (mc * s)).map (z.cells[· % s]!)) el, fun r => .slice (some ⟨r, 0, none⟩) ml mc, ?_, .row el r1 r2, slc ml mc⟩
                have : execOp e ⟨dst, .makeSlice t l c, type, pos, after, guard⟩ = (do pure (.value (← Instr.makeSlice t (e l) (e c)))) := rfl
                rw [this, Sem.run_bind, hrun]; rfl
              · cases ha
            · cases ha
          · cases hc
        · cases hc
      · cases hc
    · cases hc
  case call c =>
    exfalso
    obtain ⟨callee, args, ats⟩ := c
    cases callee with
    | value g =>
      simp only [compOp] at hc
      split at hc
      · split at hc
        · split at hc
          · cases hc; cases ha
          · cases hc
        · cases hc; cases ha
      · cases hc
    | invoke r m => cases hc
    | builtin b => cases b <;> simp only [compOp] at hc <;> (repeat' (first | (cases hc; done) | split at hc)) <;> (cases hc; cases ha)
  case makeFunc fn a c =>
    exfalso
    cases fn <;> simp only [compOp] at hc <;> (repeat' (first | (cases hc; done) | split at hc)) <;> (cases hc; cases ha)
  all_goals
    exfalso
    first
      | (cases hc; done)
      | (simp only [compOp] at hc
         repeat' (first | (cases hc; done) | split at hc)
         all_goals first
           | (cases hc; cases ha; done)
           | (obtain ⟨_, _, rfl⟩ := Option.map_eq_some_iff.1 hc; cases ha))
theorem Inv.tellB (hI : Inv lo n0 w0 ρ h w) {b : Nat} (hb : b < h.n) (hlo : lo ≤ b) (hρ : ρ b = none) {x : HB} {o : Obj} (hg : h.get b = some x) (hR : ObjR ρ w x o) :
    Inv lo n0 w0 (Rho.set ρ b w.heap.size 0) h (w.alloc o) ∧ (∀ x y, ρ x = some y → (Rho.set ρ b w.heap.size 0) x = some y) ∧ (∀ r, rowSize w r ≤ rowSize (w.alloc o) r) ∧ (∀ x, x ≠ b → ρ x = none → (Rho.set ρ b w.heap.size 0) x = none) :=
  hI.tell hb hlo hρ o (fun cs hc => by
    rcases Heap.cells_some hc with h1 | ⟨c, t, fl, h1, _⟩
    · rw [hg] at h1; cases h1
      obtain ⟨_, c, t, h2, h3, h4⟩ := hR.1 _ _ rfl
      exact ⟨c, t, h2, h3, h4⟩
    · rw [hg] at h1; cases h1
      obtain ⟨h2, _⟩ := hR.1 _ _ rfl
      cases h2) (fun es t hm => by
    rw [hg] at hm; cases hm
    obtain ⟨h1, h2, h3⟩ := hR.2.1 _ _ rfl
    exact ⟨h1, by rw [h3, h2]⟩) (fun m t seen d hm => by rw [hg] at hm; cases hm; exact absurd rfl (hR.2.2 _ _ _ _))
end
end
end Go.Proofs.Ytlidnionbofkaaa.Hm
namespace Go.Proofs.Ytlidnionbofkaaa.Hm
noncomputable section
open Go Go.RowKit
set_option linter.all false
set_option linter.unusedSimpArgs false
section
variable {lo n0 : Nat} {w0 : World} {ρ : Rho} {h h' : Heap} {w : World} {P : Program} {σ σ' : List Value}
theorem compOps_get {ops : Array Oper} : ∀ {l0 : List Oper} {l : List HOper}, compOps P ops l0 = some l → l.length = l0.length ∧ ∀ (i : Nat) (o : Oper), l0[i]? = some o → ∃ ho, l[i]? = some ho ∧ compOper P ops o = some ho
  | [], l, h => by cases h; exact ⟨rfl, fun i o ho => by simp at ho⟩
  | o :: os, l, h => by
    simp only [compOps] at h
    split at h
    · rename_i a b ha hb
      cases h
      obtain ⟨h1, h2⟩ := compOps_get hb
      refine ⟨by simp [h1], fun i x hx => ?_⟩
      cases i with
      | zero => simp at hx; subst hx; exact ⟨a, rfl, ha⟩
      | succ i => exact h2 i x (by simpa using hx)
    · cases h
theorem compOper_inv {ops : Array Oper} {o : Oper} {ho : HOper} (h : compOper P ops o = some ho) : compOpN P o.type o.op = some ho.op ∧ ho.dst = o.dst ∧
    ((o.guard = none ∧ ho.guard = none) ∨ ∃ j b d, o.guard = some (j, b) ∧ (ops[j]?).bind (·.dst) = some d ∧ ho.guard = some (d, b)) := by
  unfold compOper at h
  split at h
  · cases h
  · rename_i op hop
    split at h
    · rename_i hg; cases h; exact ⟨hop, rfl, .inl ⟨hg, rfl⟩⟩
    · rename_i j b hg
      split at h
      · rename_i d hd; cases h; exact ⟨hop, rfl, .inr ⟨j, b, d, hg, hd, rfl⟩⟩
      · cases h
theorem wanted_eq {ops : Array Oper} {o : Oper} {ho : HOper} (h : compOper P ops o = some ho) {tmps : Array Value} (hl : σ.length = tmps.size) (hv : ∀ t b, ho.guard = some (t, b) → VR ρ w (σ.getD t undef) (tmps.getD t undef)) :
    Region.wanted o (yielded ops tmps) = wantedH σ ho.guard := by
  obtain ⟨_, _, hg⟩ := compOper_inv h
  rcases hg with ⟨h1, h2⟩ | ⟨j, b, d, h1, h2, h3⟩
  · simp [Region.wanted, wantedH, h1, h2, atR_eq]
  · have hv := hv d b h3
    unfold Region.wanted wantedH yielded
    simp only [atR_eq]
    simp only [h1, h3, h2, Option.bind_some]
    by_cases hd : d < σ.length
    · have hd2 : d < tmps.size := hl ▸ hd
      rw [List.getElem?_eq_getElem hd, Array.getElem?_eq_getElem hd2]
      simp only [List.getD_eq_getElem?_getD, List.getElem?_eq_getElem hd, Array.getD_eq_getD_getElem?, Array.getElem?_eq_getElem hd2, Option.getD_some] at hv
      generalize σ[d] = x at hv
      generalize tmps[d] = y at hv
      cases hv <;> first | rfl | (rename_i c; cases c <;> cases b <;> rfl)
    · rw [List.getElem?_eq_none (Nat.le_of_not_lt hd), Array.getElem?_eq_none (by rw [← hl]; exact Nat.le_of_not_lt hd)]
      rfl
def mask (ns : List Nat) (σ : List Value) : List Value := (List.range σ.length).map fun t => if ns.contains t then σ.getD t undef else undef
theorem mask_get (ns : List Nat) (σ : List Value) (t : Nat) : (mask ns σ).getD t undef = if ns.contains t then σ.getD t undef else undef := by
  unfold mask
  simp only [List.getD_eq_getElem?_getD, List.getElem?_map]
  by_cases h : t < σ.length
  · rw [List.getElem?_range h]; simp
  · rw [List.getElem?_eq_none (by simp; omega), List.getElem?_eq_none (by omega)]; simp
theorem ev_mask {ho : HOper} {x : Operand} (hx : x ∈ ho.op.reads) : ev σ x = ev (mask ho.names σ) x := by
  cases x with
  | tmp t =>
    have : ho.names.contains t = true := by
      simp only [List.contains_iff_mem]
      exact List.mem_append.2 (.inl (mem_tmps hx rfl))
    simp only [ev_tmp, mask_get, this, if_true]
  | const v => rfl
  | global g => rfl
  | func f => rfl
def maskE (ns : List Nat) (a : Act) (x : Operand) : Value := match x with
  | .tmp t => if ns.contains t then a.tmps.getD t undef else undef
  | x => a.eval x
theorem compOpN_inv {type : TypeId} {op : Op} {hop : HOp} (h : compOpN P type op = some hop) (hn : ∀ ts, hop ≠ .no ts) : compOp P type op = some hop := by
  unfold compOpN at h
  split at h
  · rename_i e; cases h; exact e
  · split at h
    · cases h
    · cases h; exact absurd rfl (hn _)
theorem operands_readsN {type : TypeId} {op : Op} {hop : HOp} (h : compOpN P type op = some hop) {t : Nat} (ht : Operand.tmp t ∈ op.operands.toList) : Operand.tmp t ∈ hop.reads := by
  unfold compOpN at h
  split at h
  · rename_i e; cases h; exact operands_reads e _ ht
  · split at h
    · cases h
    · cases h
      exact List.mem_map.2 ⟨t, List.mem_filterMap.2 ⟨_, ht, rfl⟩, rfl⟩
theorem execOp_mask {ops : Array Oper} {o : Oper} {ho : HOper} (h : compOper P ops o = some ho) (a : Act) : execOp a.eval o = execOp (maskE ho.names a) o := by
  obtain ⟨hc, _, _⟩ := compOper_inv h
  refine execOp_congr o (fun cs b e => by rw [e] at hc; simp [compOpN, compOp] at hc) fun x hx => ?_
  cases x with
  | tmp t =>
    have hr := operands_readsN hc (t := t) (by simpa using hx)
    have : ho.names.contains t = true := by
      simp only [List.contains_iff_mem]
      exact List.mem_append.2 (.inl (mem_tmps hr rfl))
    simp only [maskE, this, if_true, Act.eval]
  | const v => rfl
  | global g => rfl
  | func f => rfl
theorem mask_vr {ho : HOper} {a : Act} (hrel : ∀ t ∈ ho.names, VR ρ w (σ.getD t undef) (a.tmps.getD t undef)) : ∀ x, okOp x = true → VR ρ w (ev (mask ho.names σ) x) (maskE ho.names a x) := by
  intro x hx
  cases x with
  | tmp t =>
    simp only [ev_tmp, mask_get, maskE]
    split
    · rename_i hc
      exact hrel t (by simpa using hc)
    · exact VR.undef _ _
  | const v => exact VR.plainV hx
  | global g => cases hx
  | func f => exact .fn _ _ _ _ _ rfl rfl (fun i hi => absurd hi (by simp)) (fun i hi => absurd hi (by simp))
theorem alcOf_congr {op : HOp} (he : ∀ x ∈ op.reads, ev σ x = ev σ' x) : alcOf σ op = alcOf σ' op := by
  cases op <;> simp only [HOp.reads, List.mem_cons, List.not_mem_nil, or_false, forall_eq_or_imp, forall_eq] at he <;> simp only [alcOf]
  case box x => rw [he]
  case bslice e n z ps =>
    have : (ps.map fun p => (p.1 * e, e, ev σ p.2)) = ps.map fun p => (p.1 * e, e, ev σ' p.2) := List.map_congr_left fun p hp => by rw [he p.2 (List.mem_map.2 ⟨p, hp, rfl⟩)]
    rw [this]
  case mkslice => rw [he.1, he.2]
theorem alc_names {ops : Array Oper} {o : Oper} {ho : HOper} (hco : compOper P ops o = some ho) (a : Act) (hrel : ∀ t ∈ ho.names, VR ρ w (σ.getD t undef) (a.tmps.getD t undef)) {b : HB} {mk : Nat → Value} (ha : alcOf σ ho.op = some (b, mk)) :
    ∃ (obj : Obj) (mkR : Nat → Value), (execOp a.eval o).run P w = .ok (.value (mkR w.heap.size)) (w.alloc obj) ∧ ObjR ρ w b obj ∧ ∀ (ρ' : Rho) (w' : World) (c r : Nat), ρ' c = some (r, 0) → VR ρ' w' (mk c) (mkR r) := by
  obtain ⟨hc, hd, _⟩ := compOper_inv hco
  have hc := compOpN_inv hc fun ts e => by rw [e] at ha; cases ha
  rw [alcOf_congr (σ' := mask ho.names σ) fun x hx => ev_mask hx] at ha
  rw [execOp_mask hco a]
  exact alc_run (mask_vr hrel) o hc ha
theorem xop_same {op : HOp} (hk : op.kd = .pur ∨ op.kd = .lod) {v : Value} (hx : xop lo σ h op = some (v, h')) : h' = h := by
  cases op <;> (try (rcases hk with hk | hk <;> cases hk; done)) <;> simp only [xop, xopE] at hx
  all_goals repeat' (first
    | (cases hx; rfl)
    | (cases hx; done)
    | (obtain ⟨_, _, e⟩ := Option.map_eq_some_iff.1 hx; cases e; rfl)
    | split at hx)
theorem xop_pur {op : HOp} (hk : op.kd = .pur) {v : Value} {h1 : Heap} (hx : xop lo σ h op = some (v, h1)) (h2 : Heap) : xop lo σ h2 op = some (v, h2) := by
  cases op <;> (try (cases hk; done)) <;> simp only [xop, xopE] at hx ⊢
  all_goals repeat' (first
    | (cases hx; rfl)
    | (cases hx; done)
    | (obtain ⟨u, hu, e⟩ := Option.map_eq_some_iff.1 hx; cases e; rw [hu]; rfl)
    | (obtain ⟨u, hu, e⟩ := Option.map_eq_some_iff.1 hx; cases e; rename_i hcond; rw [if_pos hcond, hu]; rfl)
    | (rename_i hcond; cases hx; rw [if_pos hcond])
    | split at hx)
theorem rd_ext {h2 : Heap} (hg : ∀ b x, h.get b = some x → h2.get b = some x) (hc : ∀ c x, h.cl c = some x → h2.cl c = some x) {b : Nat} {cs : List Value} (h1 : h.cells b = some cs) : h2.cells b = some cs := by
  rcases Heap.cells_some h1 with h3 | ⟨c, t, fl, h3, h4, h5⟩
  · unfold Heap.cells; rw [hg _ _ h3]
  · unfold Heap.cells; rw [hg _ _ h3]; simp only [hc _ _ h4]; rw [if_pos h5]
theorem xop_ext {op : HOp} (hk : op.kd = .pur ∨ op.kd = .lod) {h2 : Heap} (hg : ∀ b x, h.get b = some x → h2.get b = some x) (hc : ∀ c x, h.cl c = some x → h2.cl c = some x) {v : Value} {h1 : Heap} (hx : xop lo σ h op = some (v, h1)) : xop lo σ h2 op = some (v, h2) := by
  rcases hk with hk | hk
  · exact xop_pur hk hx h2
  · cases op <;> (try (cases hk; done)) <;> simp only [xop, xopE] at hx ⊢
    · rename_i agg a
      split at hx
      · rename_i b o hb
        cases agg with
        | none =>
          simp only at hx ⊢
          obtain ⟨u, hu, e⟩ := Option.map_eq_some_iff.1 hx; cases e
          unfold Heap.rd1 at hu ⊢
          split at hu
          · rename_i cs hcs; rw [rd_ext hg hc hcs]; simp only [hu]; rfl
          · cases hu
        | some n =>
          simp only at hx ⊢
          obtain ⟨u, hu, e⟩ := Option.map_eq_some_iff.1 hx; cases e
          unfold Heap.rd at hu ⊢
          split at hu
          · rename_i cs hcs; rw [rd_ext hg hc hcs]; simp only [hu]; rfl
          · cases hu
      · cases hx
    · rename_i d z m k ok
      generalize ev σ m = mv at hx ⊢
      split at hx
      · cases hx
      · rename_i es hes
        have hes2 : h2.entries mv = some es := by
          unfold Heap.entries at hes ⊢
          split at hes
          · exact hes
          · split at hes
            · rename_i es2 t2 hgb; cases hes; simp only [hg _ _ hgb]
            · cases hes
          · cases hes
        rw [hes2]
        simp only
        split at hx
        · rename_i hk2
          rw [if_pos hk2]
          split at hx
          · cases hx; rfl
          · cases hx; rfl
          · cases hx
        · cases hx
    · rename_i x
      split at hx
      · cases hx; rfl
      · rename_i b hb
        split at hx
        · rename_i es t hgb; cases hx; simp only [hg _ _ hgb]
        · cases hx
      · cases hx
theorem get_pushB (h : Heap) (b : HB) (x : Nat) : (h.pushB b).get x = if x = h.n then some b else h.get x := Heap.get_push h b _ _ x
theorem Inv.pushB (hI : Inv lo n0 w0 ρ h w) {b : HB} (hb : ∀ cs c, b ≠ .row cs (some c)) : Inv lo n0 w0 ρ (h.pushB b) w :=
  hI.push b rfl (get_pushB h b) (fun _ _ => rfl) (fun cs c e => absurd e (hb cs c)) (fun cs c e => absurd e (hb cs c))
theorem samePs_eq : ∀ {a b : List Value}, samePs a b = true → a = b
  | [], [], _ => rfl
  | [], _ :: _, h => by simp [samePs] at h
  | x :: l, [], h => by cases x <;> simp [samePs] at h
  | x :: l, y :: m, h => by
    cases x <;> cases y <;> simp only [samePs, Bool.and_eq_true, decide_eq_true_eq, Bool.false_eq_true] at h
    obtain ⟨rfl, h2⟩ := h
    rw [samePs_eq h2]
theorem same0_eq {a b : Value} (h : same0 a b = true) : a = b := by
  unfold same0 at h
  split at h
  · simp only [Bool.and_eq_true, decide_eq_true_eq] at h
    obtain ⟨rfl, h1, h2⟩ := h
    rw [Array.toList_inj.1 (samePs_eq h1), Array.toList_inj.1 (samePs_eq h2)]
  all_goals first
    | rfl
    | (simp at h; simp [h]; done)
    | (rename_i x y; simp only [decide_eq_true_eq] at h; obtain ⟨⟨x⟩⟩ := x; obtain ⟨⟨y⟩⟩ := y; (try simp only at h); rw [h])
    | (cases h; done)
theorem sameL_eq : ∀ {a b : List Value}, sameL a b = true → a = b
  | [], [], _ => rfl
  | [], _ :: _, h => by cases h
  | _ :: _, [], h => by cases h
  | a :: as, b :: bs, h => by
    simp only [sameL, Bool.and_eq_true] at h
    rw [same0_eq h.1, sameL_eq h.2]
theorem sameV_eq {a b : Value} (h : sameV a b = true) : a = b := by
  unfold sameV at h
  split at h
  · rw [Array.toList_inj.1 (sameL_eq h)]
  · rw [Array.toList_inj.1 (sameL_eq h)]
  · exact same0_eq h
theorem recheck_mem {l : List HOper} : ∀ {js : List Nat}, recheck lo l σ h js = true → ∀ j ∈ js, ∃ o, l[j]? = some o ∧ (wantedH σ o.guard = true → ∃ d v h1, o.dst = some d ∧ xop lo σ h o.op = some (v, h1) ∧ σ.getD d undef = v)
  | [], _, j, hj => by cases hj
  | i :: js, hr, j, hj => by
    simp only [recheck, Bool.and_eq_true, atR_eq] at hr
    cases hj with
    | tail _ hj => exact recheck_mem hr.2 j hj
    | head =>
      have h1 := hr.1
      split at h1
      · rename_i o ho
        refine ⟨o, ho, fun hw => ?_⟩
        rw [if_pos hw] at h1
        split at h1
        · rename_i d v hh hd hx
          exact ⟨d, v, hh, hd, hx, sameV_eq h1⟩
        · cases h1
      · cases h1
theorem getD_set_ne {σ : List Value} {d t : Nat} {v : Value} (h : d ≠ t) : (σ.set d v).getD t undef = σ.getD t undef := by
  simp only [List.getD_eq_getElem?_getD, List.getElem?_set_ne h]
theorem getD_set_eq {σ : List Value} {d : Nat} {v : Value} (h : d < σ.length) : (σ.set d v).getD d undef = v := by
  simp [List.getD_eq_getElem?_getD, h]
theorem putD_len (σ : List Value) (d : Option Nat) (v : Value) : (putD σ d v).length = σ.length := by cases d <;> simp [putD, setS_eq]
theorem putD_eq {σ : List Value} {d : Nat} {v : Value} (h : d < σ.length) : (putD σ (some d) v).getD d undef = v := by
  simp only [putD, setS_eq]; exact getD_set_eq h
theorem putD_ne {σ : List Value} {d : Option Nat} {t : Nat} {v : Value} (h : d ≠ some t) : (putD σ d v).getD t undef = σ.getD t undef := by
  cases d with
  | none => rfl
  | some d => simp only [putD, setS_eq]; exact getD_set_ne (fun e => h (by rw [e]))
theorem put_ne {a : Act} {d : Option Tmp} {t : Nat} {v : Value} (h : d ≠ some t) : (a.put d v).tmps.getD t undef = a.tmps.getD t undef := by
  cases d with
  | none => rfl
  | some d =>
    have hne : d ≠ t := fun e => h (by rw [e])
    simp [Act.put, Array.getD_eq_getD_getElem?, Array.getElem?_setIfInBounds_ne hne]
theorem put_eq {a : Act} {t : Nat} {v : Value} (h : t < a.tmps.size) : (a.put (some t) v).tmps.getD t undef = v := by
  simp [Act.put, Array.getD_eq_getD_getElem?, h]
theorem put_size (a : Act) (d : Option Tmp) (v : Value) : (a.put d v).tmps.size = a.tmps.size := by cases d <;> simp [Act.put]
theorem put_dfr (a : Act) (d : Option Tmp) (v : Value) : (a.put d v).defers = a.defers := by cases d <;> rfl
theorem wanted_same {g : Option (Nat × Bool)} (h : ∀ t b, g = some (t, b) → σ.getD t undef = σ'.getD t undef) (hl : σ.length = σ'.length) : wantedH σ g = wantedH σ' g := by
  cases g with
  | none => rfl
  | some p =>
    obtain ⟨t, b⟩ := p
    have h := h t b rfl
    unfold wantedH
    simp only [atR_eq]
    by_cases ht : t < σ.length
    · have ht2 : t < σ'.length := hl ▸ ht
      simp only [List.getD_eq_getElem?_getD, List.getElem?_eq_getElem ht, List.getElem?_eq_getElem ht2, Option.getD_some] at h ⊢
      rw [h]
    · rw [List.getElem?_eq_none (by omega), List.getElem?_eq_none (by omega)]
end
end
end Go.Proofs.Ytlidnionbofkaaa.Hm
namespace Go.Proofs.Ytlidnionbofkaaa.Hm
noncomputable section
open Go
set_option linter.all false
abbrev CallR := Nat → List Value → Heap → (Rv → Heap → Prop) → Prop
abbrev PostR := Out → List Value → Heap → Prop
def xopR (call : CallR) (lo : Nat) (σ : List Value) (h : Heap) (op : HOp) (K : Rv → Heap → Prop) : Prop :=
  match op with
  | .call f args => ∃ k vs K1, callee σ f args = some (k, vs) ∧ call k vs h K1 ∧ ∀ r h', K1 r h' → K r h'
  | .pan x => ∃ t v, ev σ x = .iface t v ∧ K (.pan (.iface t v)) h
  | .nxt x => ∃ l, nextOf lo h (ev σ x) = some l ∧ ∀ p ∈ l, K (.ret p.1) p.2
  | o => ∃ v h', xop lo σ h o = some (v, h') ∧ K (.ret v) h'
def thenV (K : Value → Heap → Prop) (KP : Value → Heap → Prop) : Rv → Heap → Prop
  | .ret v, h => K v h
  | .pan v, h => KP v h
def stepR (call : CallR) (lo : Nat) (o : HOper) (σ : List Value) (h : Heap) (K : List Value → Heap → Prop) (KP : Value → Heap → Prop) : Prop :=
  if wantedH σ o.guard then xopR call lo σ h o.op (thenV (fun v h' => K (putD σ o.dst v) h') KP) else K (putD σ o.dst undef) h
def ropsR (call : CallR) (lo : Nat) (K : List Value → Heap → Prop) (KP : Value → List Value → Heap → Prop) : List HOper → List Value → Heap → Prop
  | [], σ, h => K σ h
  | o :: os, σ, h => stepR call lo o σ h (fun σ' h' => ropsR call lo K KP os σ' h') (fun v h' => KP v σ h')
def drwsR (call : CallR) (lo : Nat) (ops : List HOper) (K : List Value → Heap → Prop) (KP : Value → List Value → Heap → Prop) : List (Nat × List Nat) → List Value → Heap → Prop
  | [], σ, h => K σ h
  | (i, js) :: rest, σ, h => ∃ o, ops[i]? = some o ∧ stepR call lo o σ h (fun σ' h' => recheck lo ops σ' h' js = true ∧ drwsR call lo ops K KP rest σ' h') (fun v h' => KP v σ h')
def wipe : List HOper → List Value → List Value
  | [], σ => σ
  | o :: os, σ => wipe os (putD σ o.dst undef)
def inB (id : Nat) : Out → Out
  | .ext j => if j = id then .nrm else .ext j
  | o => o
def thenR (K : List Value → Heap → Prop) (Q : PostR) : PostR
  | .nrm, σ, h => K σ h
  | o, σ, h => Q o σ h
def retR (res : List (Nat × Option (Option Nat))) (K : Rv → Heap → Prop) : PostR
  | .pan v, _, h => K (.pan v) h
  | .ext _, _, _ => False
  | _, σ, h => ∃ l, ress h σ res = some l ∧ K (.ret (tupled l)) h
abbrev RunT := HC → List Value → Heap → PostR → Prop
def Lf (T : RunT) : RunT := fun c σ h Q => ∃ Q1, T c σ h Q1 ∧ ∀ o s g, Q1 o s g → Q o s g
def preR (T : RunT) : List HC → List Value → Heap → PostR → Prop
  | [], σ, h, Q => Q .nrm σ h
  | c :: cs, σ, h, Q => Lf T c σ h (thenR (fun σ' h' => preR T cs σ' h' Q) Q)
def finR (d : DFn) (σ2 : List Value) (K : Rv → Heap → Prop) : PostR
  | .nrm, _, h3 => ∃ l, ress h3 σ2 d.res = some l ∧ K (.ret (tupled l)) h3
  | .ret, _, h3 => ∃ l, ress h3 σ2 d.res = some l ∧ K (.ret (tupled l)) h3
  | _, _, _ => False
def dslots (d : DFn) (σ : List Value) (v : Value) : List Value := (d.caps.map (ev σ) ++ List.replicate (d.dn - d.caps.length) undef).set d.drec v
def postD (T : RunT) (d : DFn) (σ : List Value) (K : Rv → Heap → Prop) : PostR
  | .ext _, _, _ => False
  | .pan v, σ2, h2 => Lf T d.dbody (dslots d σ v) h2 (finR d σ2 K)
  | _, σ2, h2 => Lf T d.dbody (dslots d σ .nilIface) h2 (finR d σ2 K)
def preD (T : RunT) (d : DFn) (K : Rv → Heap → Prop) : PostR
  | .ret, σ, h1 => ∃ l, ress h1 σ d.res = some l ∧ K (.ret (tupled l)) h1
  | .nrm, σ, h1 => d.tmp < σ.length ∧ Lf T d.post (σ.set d.tmp (.func (.func d.clo) #[] ⟨d.caps.map (ev σ)⟩)) h1 (postD T d σ K)
  | _, _, _ => False
def deferR (T : RunT) (d : DFn) (vs : List Value) (h : Heap) (K : Rv → Heap → Prop) : Prop :=
  (d.res.all fun r => r.2.isSome) = true ∧ preR T d.pres (vs ++ List.replicate (d.ntmps - vs.length) undef) h (preD T d K)
def callR (F : Nat → Option HFn) (lo : Nat) (T : RunT) : CallR := fun k vs h K => ∃ fn, F k = some fn ∧
  match fn.sem with
  | some (.fn s) => ∃ K1, s lo vs h K1 ∧ ∀ r g, K1 r g → K r g
  | some (.dfn d) => deferR T d vs h K
  | none => match fn.prim with
    | some p => ∃ v h', p lo vs h = some (v, h') ∧ K (.ret v) h'
    | none => Lf T fn.body (vs ++ List.replicate (fn.ntmps - vs.length) undef) h (retR fn.res K)
def Step (F : Nat → Option HFn) (lo : Nat) (T : RunT) : RunT := fun c σ h Q =>
  match c with
  | .skip => Q .nrm σ h
  | .ret => Q .ret σ h
  | .exit id => Q (.ext id) σ h
  | .seq a b => Lf T a σ h (thenR (fun σ1 h1 => Lf T b σ1 h1 Q) Q)
  | .cond c a b => (ev σ c = .bool true ∧ Lf T a σ h Q) ∨ (ev σ c = .bool false ∧ Lf T b σ h Q)
  | .block id c => Lf T c σ h (fun o σ1 h1 => Q (inB id o) σ1 h1)
  | .loop c => Lf T c σ h (thenR (fun σ1 h1 => Lf T (.loop c) σ1 h1 Q) Q)
  | .rgn ops => ropsR (callR F lo T) lo (Q .nrm) (fun v => Q (.pan v)) ops σ h
  | .drw ops sched => drwsR (callR F lo T) lo ops (Q .nrm) (fun v σ' => Q (.pan v) (wipe ops σ')) sched σ h
def Runs (F : Nat → Option HFn) (lo : Nat) : RunT := fun c σ h Q => ∀ T : RunT, (∀ c σ h Q, Step F lo T c σ h Q → T c σ h Q) → T c σ h Q
def CallsR (F : Nat → Option HFn) (lo : Nat) : CallR := callR F lo (Runs F lo)
section
variable {F : Nat → Option HFn} {lo : Nat} {T T' : RunT}
theorem thenV_mono {K K' KP KP' : Value → Heap → Prop} (hk : ∀ v h, K v h → K' v h) (hp : ∀ v h, KP v h → KP' v h) : ∀ r h, thenV K KP r h → thenV K' KP' r h
  | .ret _, _, q => hk _ _ q
  | .pan _, _, q => hp _ _ q
theorem xopR_mono {c c' : CallR} (hc : ∀ k vs h K, c k vs h K → c' k vs h K) {σ : List Value} {h : Heap} {op : HOp} {K K' : Rv → Heap → Prop} (hk : ∀ r h, K r h → K' r h) (hx : xopR c lo σ h op K) : xopR c' lo σ h op K' := by
  cases op
  case call f args => obtain ⟨k, vs, K1, h1, h2, h3⟩ := hx; exact ⟨k, vs, K1, h1, hc _ _ _ _ h2, fun r g q => hk _ _ (h3 r g q)⟩
  case pan x => obtain ⟨t, v, h1, h2⟩ := hx; exact ⟨t, v, h1, hk _ _ h2⟩
  case nxt x => obtain ⟨l, h1, h2⟩ := hx; exact ⟨l, h1, fun p hp => hk _ _ (h2 p hp)⟩
  all_goals (obtain ⟨v, g, h1, h2⟩ := hx; exact ⟨v, g, h1, hk _ _ h2⟩)
theorem stepR_mono {c c' : CallR} (hc : ∀ k vs h K, c k vs h K → c' k vs h K) {σ : List Value} {h : Heap} {o : HOper} {K K' : List Value → Heap → Prop} {KP KP' : Value → Heap → Prop} (hk : ∀ r h, K r h → K' r h) (hp : ∀ v h, KP v h → KP' v h) (hx : stepR c lo o σ h K KP) : stepR c' lo o σ h K' KP' := by
  unfold stepR at hx ⊢
  split
  · rename_i hw; rw [if_pos hw] at hx; exact xopR_mono hc (thenV_mono (fun _ _ => hk _ _) hp) hx
  · rename_i hw; rw [if_neg hw] at hx; exact hk _ _ hx
theorem ropsR_mono {c c' : CallR} (hc : ∀ k vs h K, c k vs h K → c' k vs h K) {K K' : List Value → Heap → Prop} {KP KP' : Value → List Value → Heap → Prop} (hk : ∀ r h, K r h → K' r h) (hp : ∀ v s h, KP v s h → KP' v s h) : ∀ {ops : List HOper} {σ : List Value} {h : Heap}, ropsR c lo K KP ops σ h → ropsR c' lo K' KP' ops σ h
  | [], σ, h, hx => hk _ _ hx
  | o :: os, σ, h, hx => stepR_mono hc (fun _ _ q => ropsR_mono hc hk hp q) (fun _ _ q => hp _ _ _ q) hx
theorem drwsR_mono {c c' : CallR} (hc : ∀ k vs h K, c k vs h K → c' k vs h K) {ops : List HOper} {K K' : List Value → Heap → Prop} {KP KP' : Value → List Value → Heap → Prop} (hk : ∀ r h, K r h → K' r h) (hp : ∀ v s h, KP v s h → KP' v s h) : ∀ {sched : List (Nat × List Nat)} {σ : List Value} {h : Heap}, drwsR c lo ops K KP sched σ h → drwsR c' lo ops K' KP' sched σ h
  | [], σ, h, hx => hk _ _ hx
  | (i, js) :: rest, σ, h, hx => by
    obtain ⟨o, h1, h2⟩ := hx
    exact ⟨o, h1, stepR_mono hc (fun _ _ q => ⟨q.1, drwsR_mono hc hk hp q.2⟩) (fun _ _ q => hp _ _ _ q) h2⟩
theorem Lf_mono (ht : ∀ c σ h Q, T c σ h Q → T' c σ h Q) {c : HC} {σ : List Value} {h : Heap} {Q Q' : PostR} (hq : ∀ o s g, Q o s g → Q' o s g) (hx : Lf T c σ h Q) : Lf T' c σ h Q' := by
  obtain ⟨Q1, h1, h2⟩ := hx
  exact ⟨Q1, ht _ _ _ _ h1, fun o s g q => hq _ _ _ (h2 _ _ _ q)⟩
theorem retR_mono {res : List (Nat × Option (Option Nat))} {K K' : Rv → Heap → Prop} (hk : ∀ r h, K r h → K' r h) : ∀ o s g, retR res K o s g → retR res K' o s g := by
  intro o s g q
  cases o with
  | nrm => obtain ⟨l, h1, h2⟩ := q; exact ⟨l, h1, hk _ _ h2⟩
  | ret => obtain ⟨l, h1, h2⟩ := q; exact ⟨l, h1, hk _ _ h2⟩
  | ext id => exact q
  | pan v => exact hk _ _ q
theorem preR_mono (ht : ∀ c σ h Q, T c σ h Q → T' c σ h Q) : ∀ {cs : List HC} {σ : List Value} {h : Heap} {Q Q' : PostR}, (∀ o s g, Q o s g → Q' o s g) → preR T cs σ h Q → preR T' cs σ h Q'
  | [], σ, h, Q, Q', hq, hx => hq _ _ _ hx
  | c :: cs, σ, h, Q, Q', hq, hx => Lf_mono ht (fun o s g q => by
    cases o with
    | nrm => exact preR_mono ht hq q
    | ret => exact hq _ _ _ q
    | ext id => exact hq _ _ _ q
    | pan v => exact hq _ _ _ q) hx
theorem finR_mono {d : DFn} {σ2 : List Value} {K K' : Rv → Heap → Prop} (hk : ∀ r h, K r h → K' r h) : ∀ o s g, finR d σ2 K o s g → finR d σ2 K' o s g := by
  intro o s g q
  cases o with
  | nrm => obtain ⟨l, h1, h2⟩ := q; exact ⟨l, h1, hk _ _ h2⟩
  | ret => obtain ⟨l, h1, h2⟩ := q; exact ⟨l, h1, hk _ _ h2⟩
  | ext id => exact q
  | pan v => exact q
theorem deferR_mono (ht : ∀ c σ h Q, T c σ h Q → T' c σ h Q) {d : DFn} {vs : List Value} {h : Heap} {K K' : Rv → Heap → Prop} (hk : ∀ r h, K r h → K' r h) (hx : deferR T d vs h K) : deferR T' d vs h K' := by
  refine ⟨hx.1, preR_mono ht (fun o s g q => ?_) hx.2⟩
  cases o with
  | ret => obtain ⟨l, h1, h2⟩ := q; exact ⟨l, h1, hk _ _ h2⟩
  | ext id => exact q
  | pan v => exact q
  | nrm =>
    refine ⟨q.1, Lf_mono ht (fun o s2 g q => ?_) q.2⟩
    cases o with
    | ext id => exact q
    | nrm => exact Lf_mono ht (finR_mono hk) q
    | ret => exact Lf_mono ht (finR_mono hk) q
    | pan v => exact Lf_mono ht (finR_mono hk) q
theorem callR_mono (ht : ∀ c σ h Q, T c σ h Q → T' c σ h Q) {k : Nat} {vs : List Value} {h : Heap} {K K' : Rv → Heap → Prop} (hk : ∀ r h, K r h → K' r h) (hx : callR F lo T k vs h K) : callR F lo T' k vs h K' := by
  obtain ⟨fn, h1, h2⟩ := hx
  refine ⟨fn, h1, ?_⟩
  split
  · rename_i s e
    rw [e] at h2
    obtain ⟨K1, h3, h4⟩ := h2
    exact ⟨K1, h3, fun r g q => hk _ _ (h4 r g q)⟩
  · rename_i d e
    rw [e] at h2
    exact deferR_mono ht hk h2
  · rename_i e
    rw [e] at h2
    split
    · rename_i p e2
      simp only [e2] at h2
      obtain ⟨v, g, h3, h4⟩ := h2
      exact ⟨v, g, h3, hk _ _ h4⟩
    · rename_i e2
      simp only [e2] at h2
      exact Lf_mono ht (retR_mono hk) h2
theorem thenR_mono {K K' : List Value → Heap → Prop} {Q Q' : PostR} (hk : ∀ s g, K s g → K' s g) (hq : ∀ o s g, Q o s g → Q' o s g) : ∀ o s g, thenR K Q o s g → thenR K' Q' o s g := by
  intro o s g q
  cases o with
  | nrm => exact hk _ _ q
  | ret => exact hq _ _ _ q
  | ext id => exact hq _ _ _ q
  | pan v => exact hq _ _ _ q
theorem Step_mono (ht : ∀ c σ h Q, T c σ h Q → T' c σ h Q) {c : HC} {σ : List Value} {h : Heap} {Q Q' : PostR} (hq : ∀ o s g, Q o s g → Q' o s g) (hx : Step F lo T c σ h Q) : Step F lo T' c σ h Q' := by
  cases c with
  | skip => exact hq _ _ _ hx
  | ret => exact hq _ _ _ hx
  | exit id => exact hq _ _ _ hx
  | seq a b => exact Lf_mono ht (thenR_mono (fun _ _ q => Lf_mono ht hq q) hq) hx
  | cond c a b => exact hx.imp (fun q => ⟨q.1, Lf_mono ht hq q.2⟩) (fun q => ⟨q.1, Lf_mono ht hq q.2⟩)
  | block id c => exact Lf_mono ht (fun o s g q => hq _ _ _ q) hx
  | loop c => exact Lf_mono ht (thenR_mono (fun _ _ q => Lf_mono ht hq q) hq) hx
  | rgn ops => exact ropsR_mono (fun _ _ _ _ q => callR_mono ht (fun _ _ q => q) q) (fun _ _ => hq _ _ _) (fun _ _ _ => hq _ _ _) hx
  | drw ops sched => exact drwsR_mono (fun _ _ _ _ q => callR_mono ht (fun _ _ q => q) q) (fun _ _ => hq _ _ _) (fun _ _ _ => hq _ _ _) hx
theorem Runs.fold {c : HC} {σ : List Value} {h : Heap} {Q : PostR} (hs : Step F lo (Runs F lo) c σ h Q) : Runs F lo c σ h Q :=
  fun T hT => hT _ _ _ _ (Step_mono (fun _ _ _ _ hr => hr T hT) (fun _ _ _ q => q) hs)
theorem Runs.mono {c : HC} {σ : List Value} {h : Heap} {Q Q' : PostR} (hr : Runs F lo c σ h Q) (hq : ∀ o s g, Q o s g → Q' o s g) : Runs F lo c σ h Q' :=
  hr (fun c σ h Q => ∀ Q' : PostR, (∀ o s g, Q o s g → Q' o s g) → Runs F lo c σ h Q') (fun c σ h Q hs Q' hq' => Runs.fold (Step_mono (fun _ _ _ _ q => q _ (fun _ _ _ q => q)) hq' hs)) Q' hq
theorem Lf_runs {c : HC} {σ : List Value} {h : Heap} {Q : PostR} (hr : Runs F lo c σ h Q) : Lf (Runs F lo) c σ h Q := ⟨Q, hr, fun _ _ _ q => q⟩
theorem CallsR.mono {k : Nat} {vs : List Value} {h : Heap} {K K' : Rv → Heap → Prop} (hx : CallsR F lo k vs h K) (hk : ∀ r h, K r h → K' r h) : CallsR F lo k vs h K' := callR_mono (fun _ _ _ _ q => q) hk hx
theorem Runs.skip {σ : List Value} {h : Heap} {Q : PostR} (q : Q .nrm σ h) : Runs F lo .skip σ h Q := Runs.fold q
theorem Runs.ret {σ : List Value} {h : Heap} {Q : PostR} (q : Q .ret σ h) : Runs F lo .ret σ h Q := Runs.fold q
theorem Runs.exit {id : Nat} {σ : List Value} {h : Heap} {Q : PostR} (q : Q (.ext id) σ h) : Runs F lo (.exit id) σ h Q := Runs.fold q
theorem Runs.seq {a b : HC} {σ : List Value} {h : Heap} {Q : PostR} (q : Runs F lo a σ h (thenR (fun σ1 h1 => Runs F lo b σ1 h1 Q) Q)) : Runs F lo (.seq a b) σ h Q :=
  Runs.fold (Lf_runs (q.mono (thenR_mono (fun _ _ => Lf_runs) (fun _ _ _ q => q))))
theorem Runs.condT {c : Operand} {a b : HC} {σ : List Value} {h : Heap} {Q : PostR} (hc : ev σ c = .bool true) (q : Runs F lo a σ h Q) : Runs F lo (.cond c a b) σ h Q := Runs.fold (.inl ⟨hc, Lf_runs q⟩)
theorem Runs.condF {c : Operand} {a b : HC} {σ : List Value} {h : Heap} {Q : PostR} (hc : ev σ c = .bool false) (q : Runs F lo b σ h Q) : Runs F lo (.cond c a b) σ h Q := Runs.fold (.inr ⟨hc, Lf_runs q⟩)
theorem Runs.block {id : Nat} {c : HC} {σ : List Value} {h : Heap} {Q : PostR} (q : Runs F lo c σ h (fun o σ1 h1 => Q (inB id o) σ1 h1)) : Runs F lo (.block id c) σ h Q := Runs.fold (Lf_runs q)
theorem Runs.loop {c : HC} {σ : List Value} {h : Heap} {Q : PostR} (q : Runs F lo c σ h (thenR (fun σ1 h1 => Runs F lo (.loop c) σ1 h1 Q) Q)) : Runs F lo (.loop c) σ h Q :=
  Runs.fold (Lf_runs (q.mono (thenR_mono (fun _ _ => Lf_runs) (fun _ _ _ q => q))))
theorem Runs.rgn {ops : List HOper} {σ : List Value} {h : Heap} {Q : PostR} (q : ropsR (CallsR F lo) lo (Q .nrm) (fun v => Q (.pan v)) ops σ h) : Runs F lo (.rgn ops) σ h Q := Runs.fold q
theorem Runs.drw {ops : List HOper} {sched : List (Nat × List Nat)} {σ : List Value} {h : Heap} {Q : PostR} (q : drwsR (CallsR F lo) lo ops (Q .nrm) (fun v σ' => Q (.pan v) (wipe ops σ')) sched σ h) : Runs F lo (.drw ops sched) σ h Q := Runs.fold q
theorem CallsR.body {k : Nat} {fn : HFn} {vs : List Value} {h : Heap} {K : Rv → Heap → Prop} (hF : F k = some fn) (hs : fn.sem = none) (hp : fn.prim = none) (q : Runs F lo fn.body (vs ++ List.replicate (fn.ntmps - vs.length) undef) h (retR fn.res K)) : CallsR F lo k vs h K := by
  refine ⟨fn, hF, ?_⟩
  rw [hs, hp]
  exact Lf_runs q
theorem CallsR.prim {k : Nat} {fn : HFn} {p : Nat → List Value → Heap → Option (Value × Heap)} {vs : List Value} {h h' : Heap} {v : Value} {K : Rv → Heap → Prop} (hF : F k = some fn) (hs : fn.sem = none) (hp : fn.prim = some p) (q : p lo vs h = some (v, h')) (hk : K (.ret v) h') : CallsR F lo k vs h K := by
  refine ⟨fn, hF, ?_⟩
  rw [hs, hp]
  exact ⟨v, h', q, hk⟩
theorem CallsR.sem {k : Nat} {fn : HFn} {s : Nat → List Value → Heap → (Rv → Heap → Prop) → Prop} {vs : List Value} {h : Heap} {K : Rv → Heap → Prop} (hF : F k = some fn) (hs : fn.sem = some (.fn s)) (q : s lo vs h K) : CallsR F lo k vs h K := by
  refine ⟨fn, hF, ?_⟩
  rw [hs]
  exact ⟨K, q, fun _ _ q => q⟩
theorem CallsR.dfn {k : Nat} {fn : HFn} {d : DFn} {vs : List Value} {h : Heap} {K : Rv → Heap → Prop} (hF : F k = some fn) (hs : fn.sem = some (.dfn d)) (q : deferR (Runs F lo) d vs h K) : CallsR F lo k vs h K := by
  refine ⟨fn, hF, ?_⟩
  rw [hs]
  exact q
theorem xoper_R {c : Nat → List Value → Heap → Option (Value × Heap)} {c' : CallR} (hc : ∀ k vs h v h', c k vs h = some (v, h') → ∀ K : Rv → Heap → Prop, K (.ret v) h' → c' k vs h K) {σ : List Value} {h h' : Heap} {op : HOp} {v : Value} (hx : xoper c lo σ h op = some (v, h')) {K : Rv → Heap → Prop} (hk : K (.ret v) h') : xopR c' lo σ h op K := by
  cases op
  case call f args =>
    simp only [xoper] at hx
    split at hx
    · rename_i k vs e
      exact ⟨k, vs, K, e, hc _ _ _ _ _ hx K hk, fun _ _ q => q⟩
    · cases hx
  case pan x => cases hx
  case nxt x =>
    simp only [xoper, xop, xopE] at hx
    split at hx
    · rename_i r e
      cases hx
      exact ⟨[(v, h')], e, fun p hp => by
        have : p = (v, h') := by simpa using hp
        subst this; exact hk⟩
    · cases hx
  all_goals exact ⟨v, h', hx, hk⟩
theorem step1_R {c : Nat → List Value → Heap → Option (Value × Heap)} {c' : CallR} (hc : ∀ k vs h v h', c k vs h = some (v, h') → ∀ K : Rv → Heap → Prop, K (.ret v) h' → c' k vs h K) {σ σ' : List Value} {h h' : Heap} {o : HOper} (hx : step1 c lo o σ h = some (σ', h')) {K : List Value → Heap → Prop} {KP : Value → Heap → Prop} (hk : K σ' h') : stepR c' lo o σ h K KP := by
  unfold step1 at hx
  unfold stepR
  split
  · rename_i hw
    rw [if_pos hw] at hx
    split at hx
    · rename_i v g e
      cases hx
      exact xoper_R hc e hk
    · cases hx
  · rename_i hw
    rw [if_neg hw] at hx
    cases hx
    exact hk
theorem rops_R {c : Nat → List Value → Heap → Option (Value × Heap)} {c' : CallR} (hc : ∀ k vs h v h', c k vs h = some (v, h') → ∀ K : Rv → Heap → Prop, K (.ret v) h' → c' k vs h K) {K : List Value → Heap → Prop} {KP : Value → List Value → Heap → Prop} : ∀ {ops : List HOper} {σ σ' : List Value} {h h' : Heap}, rops c lo ops σ h = some (σ', h') → K σ' h' → ropsR c' lo K KP ops σ h
  | [], σ, σ', h, h', hx, hk => by cases hx; exact hk
  | o :: os, σ, σ', h, h', hx, hk => by
    simp only [rops] at hx
    split at hx
    · rename_i σ1 h1 e
      exact step1_R hc e (rops_R hc hx hk)
    · cases hx
theorem drws_R {c : Nat → List Value → Heap → Option (Value × Heap)} {c' : CallR} (hc : ∀ k vs h v h', c k vs h = some (v, h') → ∀ K : Rv → Heap → Prop, K (.ret v) h' → c' k vs h K) {ops : List HOper} {K : List Value → Heap → Prop} {KP : Value → List Value → Heap → Prop} : ∀ {sched : List (Nat × List Nat)} {σ σ' : List Value} {h h' : Heap}, drws c lo ops sched σ h = some (σ', h') → K σ' h' → drwsR c' lo ops K KP sched σ h
  | [], σ, σ', h, h', hx, hk => by cases hx; exact hk
  | (i, js) :: rest, σ, σ', h, h', hx, hk => by
    simp only [drws, atR_eq] at hx
    split at hx
    · rename_i o ho
      split at hx
      · rename_i σ1 h1 e
        split at hx
        · rename_i hr
          exact ⟨o, ho, step1_R hc e ⟨hr, drws_R hc hx hk⟩⟩
        · cases hx
      · cases hx
    · cases hx
theorem run_R : ∀ (n : Nat) (c : HC) (σ : List Value) (h : Heap) (out : Out) (σ' : List Value) (h' : Heap), run F lo n c σ h = some (out, σ', h') → ∀ Q : PostR, Q out σ' h' → Runs F lo c σ h Q := by
  intro n
  induction n with
  | zero => intro c σ h out σ' h' hr; cases hr
  | succ n ih =>
    intro c σ h out σ' h' hr Q hq
    have hc : ∀ k vs h v h', hcall F lo n k vs h = some (v, h') → ∀ K : Rv → Heap → Prop, K (.ret v) h' → CallsR F lo k vs h K := by
      intro k vs h v h' hx K hk
      unfold hcall at hx
      split at hx
      · cases hx
      · rename_i fn hf
        split at hx
        · cases hx
        · rename_i hs
          split at hx
          · rename_i p hp
            exact CallsR.prim hf hs hp hx hk
          · rename_i hp
            refine CallsR.body hf hs hp ?_
            split at hx
            · cases hx
            · cases hx
            · rename_i out σ1 h1 hn1 hn2 hrun
              obtain ⟨l, hl, he⟩ := Option.map_eq_some_iff.1 hx
              cases he
              refine ih _ _ _ _ _ _ hrun _ ?_
              cases out with
              | nrm => exact ⟨l, hl, hk⟩
              | ret => exact ⟨l, hl, hk⟩
              | ext id => exact absurd rfl (hn1 id)
              | pan v => exact absurd rfl (hn2 v)
            · cases hx
    cases c with
    | skip => simp only [run] at hr; cases hr; exact Runs.skip hq
    | ret => simp only [run] at hr; cases hr; exact Runs.ret hq
    | exit id => simp only [run] at hr; cases hr; exact Runs.exit hq
    | seq a b =>
      simp only [run] at hr
      split at hr
      · rename_i σ1 h1 e
        exact Runs.seq (ih _ _ _ _ _ _ e _ (ih _ _ _ _ _ _ hr _ hq))
      · rename_i hne
        refine Runs.seq (ih _ _ _ _ _ _ hr _ ?_)
        cases out with
        | nrm => exact absurd hr (hne _ _)
        | ret => exact hq
        | ext id => exact hq
        | pan v => exact hq
    | cond c a b =>
      simp only [run] at hr
      split at hr
      · rename_i e; exact Runs.condT e (ih _ _ _ _ _ _ hr _ hq)
      · rename_i e; exact Runs.condF e (ih _ _ _ _ _ _ hr _ hq)
      · cases hr
    | block id c =>
      simp only [run] at hr
      split at hr
      · rename_i j σ1 h1 e
        refine Runs.block (ih _ _ _ _ _ _ e _ ?_)
        show Q (if j = id then Out.nrm else Out.ext j) σ1 h1
        split at hr
        · rename_i hj; cases hr; rw [if_pos hj]; exact hq
        · rename_i hj; cases hr; rw [if_neg hj]; exact hq
      · rename_i hne
        refine Runs.block (ih _ _ _ _ _ _ hr _ ?_)
        cases out with
        | nrm => exact hq
        | ret => exact hq
        | ext j => exact absurd hr (hne _ _ _)
        | pan v => exact hq
    | loop c =>
      simp only [run] at hr
      split at hr
      · rename_i σ1 h1 e
        exact Runs.loop (ih _ _ _ _ _ _ e _ (ih _ _ _ _ _ _ hr _ hq))
      · rename_i hne
        refine Runs.loop (ih _ _ _ _ _ _ hr _ ?_)
        cases out with
        | nrm => exact absurd hr (hne _ _)
        | ret => exact hq
        | ext id => exact hq
        | pan v => exact hq
    | rgn ops =>
      simp only [run] at hr
      obtain ⟨p, hp, he⟩ := Option.map_eq_some_iff.1 hr
      cases he
      exact Runs.rgn (rops_R (c := hcall F lo n) hc hp hq)
    | drw ops sched =>
      simp only [run] at hr
      obtain ⟨p, hp, he⟩ := Option.map_eq_some_iff.1 hr
      cases he
      exact Runs.drw (drws_R (c := hcall F lo n) hc hp hq)
theorem hcall_R {n k : Nat} {vs : List Value} {h h' : Heap} {v : Value} (hx : hcall F lo n k vs h = some (v, h')) {K : Rv → Heap → Prop} (hk : K (.ret v) h') : CallsR F lo k vs h K := by
  unfold hcall at hx
  split at hx
  · cases hx
  · rename_i fn hf
    split at hx
    · cases hx
    · rename_i hs
      split at hx
      · rename_i p hp
        exact CallsR.prim hf hs hp hx hk
      · rename_i hp
        refine CallsR.body hf hs hp ?_
        split at hx
        · cases hx
        · cases hx
        · rename_i out σ1 h1 hn1 hn2 hrun
          obtain ⟨l, hl, he⟩ := Option.map_eq_some_iff.1 hx
          cases he
          refine run_R _ _ _ _ _ _ _ hrun _ ?_
          cases out with
          | nrm => exact ⟨l, hl, hk⟩
          | ret => exact ⟨l, hl, hk⟩
          | ext id => exact absurd rfl (hn1 id)
          | pan v => exact absurd rfl (hn2 v)
        · cases hx
end
end
end Go.Proofs.Ytlidnionbofkaaa.Hm
namespace Go.Proofs.Ytlidnionbofkaaa.Hm
noncomputable section
open Go Go.RowKit
set_option linter.all false
set_option linter.unusedSimpArgs false
def EndR (ρ : Rho) (w : World) : Rv → Ending → Prop
  | .ret v, e => ∃ v', e = .returned v' ∧ VR ρ w v v'
  | .pan v, e => ∃ v', e = .panicked [{ v := v', recovered := false }] ∧ VR ρ w v v'
def CallROK (P : Program) (lo n0 : Nat) (w0 : World) (call : CallR) : Prop :=
  ∀ k vs h K, call k vs h K → ∀ ρ w (args : Array Value), Inv lo n0 w0 ρ h w → VRl ρ w vs args.toList →
    (callFunc k args).run P w = .ok (.enter k args) w ∧ Calls P k args w fun e w' => ∃ r h' ρ', K r h' ∧ Inv lo n0 w0 ρ' h' w' ∧ Ext ρ ρ' h h' w w' ∧ EndR ρ' w' r e
section
variable {lo n0 : Nat} {w0 : World} {P : Program} {ρ : Rho} {h h' : Heap} {w : World} {σ : List Value} {e : Operand → Value} {hop : HOp}
theorem iface_inv {t : TypeId} {v y : Value} (h : VR ρ w (.iface t v) y) : ∃ v', y = .iface t v' ∧ VR ρ w v v' := by cases h; exact ⟨_, rfl, by assumption⟩
theorem compOp_pan {type : TypeId} {op : Op} {x : Operand} (h : compOp P type op = some (.pan x)) : op = .panic x ∧ okOp x = true := by
  cases op
  case call c =>
    obtain ⟨callee, args, ats⟩ := c
    cases callee with
    | value g => simp only [compOp] at h; (repeat' (first | (cases h; done) | (simp at h; done) | split at h))
    | invoke r m => cases h
    | builtin b => cases b <;> simp only [compOp] at h <;> (repeat' (first | (cases h; done) | (simp at h; done) | split at h))
  case makeFunc fn a c => cases fn <;> simp only [compOp] at h <;> (repeat' (first | (cases h; done) | (simp at h; done) | split at h))
  case makeMap t r => cases r <;> cases h
  case panic y =>
    simp only [compOp] at h
    split at h
    · rename_i ho; cases h; exact ⟨rfl, ho⟩
    · cases h
  all_goals first
    | (cases h; done)
    | (simp only [compOp] at h; (repeat' (first | (cases h; done) | (simp at h; done) | split at h)))
theorem compOp_nxt {type : TypeId} {op : Op} {x : Operand} (h : compOp P type op = some (.nxt x)) : op = .next x false ∧ okOp x = true := by
  cases op
  case call c =>
    obtain ⟨callee, args, ats⟩ := c
    cases callee with
    | value g => simp only [compOp] at h; (repeat' (first | (cases h; done) | (simp at h; done) | split at h))
    | invoke r m => cases h
    | builtin b => cases b <;> simp only [compOp] at h <;> (repeat' (first | (cases h; done) | (simp at h; done) | split at h))
  case makeFunc fn a c => cases fn <;> simp only [compOp] at h <;> (repeat' (first | (cases h; done) | (simp at h; done) | split at h))
  case makeMap t r => cases r <;> cases h
  case next y s =>
    simp only [compOp] at h
    split at h
    · rename_i ho
      simp only [Bool.and_eq_true, Bool.not_eq_true'] at ho
      obtain ⟨ho, rfl⟩ := ho
      cases h; exact ⟨rfl, ho⟩
    · cases h
  all_goals first
    | (cases h; done)
    | (simp only [compOp] at h; (repeat' (first | (cases h; done) | (simp at h; done) | split at h)))
theorem oper_wpR {call : CallR} (hcall : CallROK P lo n0 w0 call) (hI : Inv lo n0 w0 ρ h w) (o : Oper) (a : Act) (he : ∀ x, okOp x = true → VR ρ w (ev σ x) (e x)) (hex : execOp a.eval o = execOp e o) (hc : compOp P o.type o.op = some hop)
    {KR : Rv → Heap → Prop} (hx : xopR call lo σ h hop KR) {K : Act → World → Prop} {Q : Exit → Act → World → Prop}
    (hK : ∀ v h' v' w' ρ', KR (.ret v) h' → Inv lo n0 w0 ρ' h' w' → Ext ρ ρ' h h' w w' → VR ρ' w' v v' → K (a.put o.dst v') w')
    (hP : ∀ v h' v' w' ρ', KR (.pan v) h' → Inv lo n0 w0 ρ' h' w' → Ext ρ ρ' h h' w w' → VR ρ' w' v v' → Q (.panic [{ v := v', recovered := false }]) a w') : o.wp P a w K Q := by
  unfold Oper.wp
  rw [hex]
  by_cases hord : (∀ f xs, hop ≠ .call f xs) ∧ (∀ x, hop ≠ .pan x) ∧ (∀ x, hop ≠ .nxt x)
  · obtain ⟨n1, n2, n3⟩ := hord
    obtain ⟨v, h', hx2, hk⟩ : ∃ v h', xop lo σ h hop = some (v, h') ∧ KR (.ret v) h' := by
      cases hop <;> first | exact hx | exact absurd rfl (n1 _ _) | exact absurd rfl (n2 _) | exact absurd rfl (n3 _)
    obtain ⟨v', w', ρ', hr, h1, h2, h3⟩ := op_good hI he o hc n1 hx2
    rcases hr with hr | ⟨hr, rfl⟩
    · rw [hr]; exact hK _ _ _ _ _ hk h1 h2 h3
    · rw [hr]; exact hK _ _ _ _ _ hk h1 h2 h3
  · have hcase : (∃ f xs, hop = .call f xs) ∨ (∃ x, hop = .pan x) ∨ ∃ x, hop = .nxt x := by
      cases hop <;> first | exact .inl ⟨_, _, rfl⟩ | exact .inr (.inl ⟨_, rfl⟩) | exact .inr (.inr ⟨_, rfl⟩) | exact absurd ⟨fun f xs => by simp, fun x => by simp, fun x => by simp⟩ hord
    obtain ⟨dst, op, type, pos, after, guard⟩ := o
    simp only at hc hK
    rcases hcase with ⟨f, xs, rfl⟩ | ⟨x, rfl⟩ | ⟨x, rfl⟩
    · obtain ⟨k, vs, K1, hcl, hc1, hk1⟩ := hx
      obtain ⟨args, ats, rfl, hok, rfl⟩ : ∃ args ats, op = .call ⟨.value f, args, ats⟩ ∧ okOps (f :: args.toList) = true ∧ xs = args.toList := by
        exact compOp_call hc
      unfold callee at hcl
      split at hcl
      · rename_i first captured hf
        cases hcl
        have vf := he f (okOps_mem hok (by simp))
        rw [hf] at vf
        obtain ⟨a', c', hef, va, vc⟩ := fn_inv vf
        have hrun : (execOp e ⟨dst, .call ⟨.value f, args, ats⟩, type, pos, after, guard⟩) = callFunc k ((a' ++ args.map e) ++ c') := by
          simp only [execOp, resolve, hef, Deferred.ofValue]
          rfl
        have vargs : VRl ρ w ((first.toList ++ args.toList.map (ev σ)) ++ captured.toList) ((a' ++ args.map e) ++ c').toList := by
          simp only [Array.toList_append, Array.toList_map]
          exact (va.append (VRl.map fun x hx => he x (okOps_mem hok (by simp [Array.mem_toList_iff.1 hx])))).append vc
        obtain ⟨k1, k2⟩ := hcall _ _ _ _ hc1 ρ w _ hI vargs
        rw [hrun, k1]
        refine k2.mono fun e w' ⟨r, h', ρ', q0, q1, q2, q3⟩ => ?_
        cases r with
        | ret v => obtain ⟨v', rfl, q4⟩ := q3; exact hK _ _ _ _ _ (hk1 _ _ q0) q1 q2 q4
        | pan v => obtain ⟨v', rfl, q4⟩ := q3; exact hP _ _ _ _ _ (hk1 _ _ q0) q1 q2 q4
      · cases hcl
    · obtain ⟨t, v, hv, hk⟩ := hx
      obtain ⟨rfl, ho⟩ := compOp_pan hc
      have vx := he x ho
      rw [hv] at vx
      obtain ⟨v', hy, vv⟩ := iface_inv vx
      have hrun : (execOp e ⟨dst, .panic x, type, pos, after, guard⟩).run P w = .halt (.panic (.iface t v')) w := by
        simp [execOp, hy, Instr.panic]
      rw [hrun]
      exact hP _ _ _ _ _ hk hI (Ext.refl _ _ _) (.iface t v v' vv)
    · obtain ⟨l, hl, hk⟩ := hx
      obtain ⟨rfl, ho⟩ := compOp_nxt hc
      obtain ⟨v, h', v', w', ρ', k1, k2, k3, k4, k5⟩ := next_run (P := P) type hI (he x ho) hl
      have hrun : (execOp e ⟨dst, .next x false, type, pos, after, guard⟩).run P w = .ok (.value v') w' := by
        simp [execOp, k2]
      rw [hrun]
      exact hK _ _ _ _ _ (hk _ k1) k3 k4 k5
theorem xopR_congr {call : CallR} {σ' : List Value} {op : HOp} {K : Rv → Heap → Prop} (he : ∀ x ∈ op.reads, ev σ x = ev σ' x) (hx : xopR call lo σ h op K) : xopR call lo σ' h op K := by
  cases op
  case call f xs =>
    simp only [HOp.reads, List.mem_cons, forall_eq_or_imp] at he
    have : xs.map (ev σ) = xs.map (ev σ') := List.map_congr_left fun x hx => he.2 x hx
    obtain ⟨k, vs, K1, h1, h2⟩ := hx
    exact ⟨k, vs, K1, by simp only [callee, ← he.1, ← this]; exact h1, h2⟩
  case pan x => obtain ⟨t, v, h1, h2⟩ := hx; exact ⟨t, v, by rw [← he x (by simp [HOp.reads])]; exact h1, h2⟩
  case nxt x => obtain ⟨l, h1, h2⟩ := hx; exact ⟨l, by rw [← he x (by simp [HOp.reads])]; exact h1, h2⟩
  all_goals (obtain ⟨v, g, h1, h2⟩ := hx; exact ⟨v, g, by rw [← xop_congr (lo := lo) (h := h) he]; exact h1, h2⟩)
theorem oper_namesR {call : CallR} (hcall : CallROK P lo n0 w0 call) (hI : Inv lo n0 w0 ρ h w) {ops : Array Oper} {o : Oper} {ho : HOper} (hco : compOper P ops o = some ho) (a : Act)
    (hrel : ∀ t ∈ ho.names, VR ρ w (σ.getD t undef) (a.tmps.getD t undef)) {KR : Rv → Heap → Prop} (hx : xopR call lo σ h ho.op KR) {K : Act → World → Prop} {Q : Exit → Act → World → Prop}
    (hK : ∀ v h' v' w' ρ', KR (.ret v) h' → Inv lo n0 w0 ρ' h' w' → Ext ρ ρ' h h' w w' → VR ρ' w' v v' → K (a.put ho.dst v') w')
    (hP : ∀ v h' v' w' ρ', KR (.pan v) h' → Inv lo n0 w0 ρ' h' w' → Ext ρ ρ' h h' w w' → VR ρ' w' v v' → Q (.panic [{ v := v', recovered := false }]) a w') : o.wp P a w K Q := by
  obtain ⟨hc, hd, _⟩ := compOper_inv hco
  have hc := compOpN_inv hc fun ts e => by rw [e] at hx; obtain ⟨v, g, h1, _⟩ := hx; cases h1
  have hx := xopR_congr (σ' := mask ho.names σ) (fun x hx => ev_mask hx) hx
  exact oper_wpR hcall hI o a (mask_vr hrel) (execOp_mask hco a) hc hx (fun v h' v' w' ρ' h0 h1 h2 h3 => by rw [← hd]; exact hK v h' v' w' ρ' h0 h1 h2 h3) hP
def noCall : Nat → List Value → Heap → Option (Value × Heap) := fun _ _ _ => none
theorem stepR_quiet {call : CallR} {o : HOper} (hk : o.op.kd ≠ .eff) {K : List Value → Heap → Prop} {KP : Value → Heap → Prop} (hs : stepR call lo o σ h K KP) : ∃ σ1 h1, step1 noCall lo o σ h = some (σ1, h1) ∧ K σ1 h1 := by
  unfold stepR at hs
  unfold step1
  split at hs
  · rename_i hw
    rw [if_pos hw]
    obtain ⟨v, g, h1, h2⟩ : ∃ v g, xoper noCall lo σ h o.op = some (v, g) ∧ K (putD σ o.dst v) g := by
      revert hs hk
      cases o.op <;> intro hk hs <;> first
        | exact absurd rfl hk
        | (obtain ⟨v, g, h1, h2⟩ := hs; exact ⟨v, g, h1, h2⟩)
    rw [h1]
    exact ⟨_, _, rfl, h2⟩
  · rename_i hw
    rw [if_neg hw]
    exact ⟨_, _, rfl, hs⟩
end
structure Reg (P : Program) (lo n0 : Nat) (w0 : World) where
  ops : Array Oper
  l : List HOper
  bef : List (List Nat)
  effs : List Bool
  call : CallR
  hcall : CallROK P lo n0 w0 call
  hl : compOps P ops ops.toList = some l
  hbef : befOK ops.toList bef = true
  hnames : namesOK l bef effs = true
  ds : List Deferred
section
variable {lo n0 : Nat} {w0 : World} {P : Program} (R : Reg P lo n0 w0)
def Pend (σ : List Value) (hc : Heap) (ρ : Rho) (phi : Nat → Nat) (i : Nat) : Prop :=
  ∃ o, R.l[i]? = some o ∧ (wantedH σ o.guard = false → ∀ d, o.dst = some d → σ.getD d undef = undef) ∧
    (wantedH σ o.guard = true → (o.op.kd = .pur ∨ o.op.kd = .lod) → ∃ v, xop lo σ hc o.op = some (v, hc) ∧ ∀ d, o.dst = some d → d < σ.length → σ.getD d undef = v) ∧
    (wantedH σ o.guard = true → o.op.kd = .alc → ∃ b mk, alcOf σ o.op = some (b, mk) ∧ phi i < hc.n ∧ lo ≤ phi i ∧ ρ (phi i) = none ∧ hc.get (phi i) = some b ∧ ∀ d, o.dst = some d → d < σ.length → σ.getD d undef = mk (phi i))
def WA (σ : List Value) (i : Nat) : Prop := ∃ o, R.l[i]? = some o ∧ o.op.kd = .alc ∧ wantedH σ o.guard = true
structure PInv (ρs : Rho) (hs : Heap) (ws : World) (KN : List Value → Heap → Prop) (KP : Value → List Value → Heap → Prop) (X : Nat → Bool) (phi : Nat → Nat) (done : List Nat) (todo : List (Nat × List Nat)) (σ : List Value) (hc : Heap) (a : Act) (w : World) (ρ : Rho) : Prop where
  inv : Inv lo n0 w0 ρ hc w
  ext : Ext ρs ρ hs hc ws w
  len : σ.length = a.tmps.size
  dfr : a.defers = R.ds
  run : drwsR R.call lo R.l KN KP todo σ hc
  sch : schedOK R.ops.toList R.l R.bef R.effs done todo = true
  todoX : ∀ p ∈ todo, X p.1 = false
  doneX : ∀ i ∈ done, X i = false → R.effs.getD i true = false
  sub : ∀ i, X i = true → i ∈ done
  clo : ∀ i, X i = true → ∀ j ∈ R.bef.getD i [], X j = true
  rel : ∀ t, (∀ i ∈ done, X i = false → dstOf R.l i ≠ some t) → VR ρ w (σ.getD t undef) (a.tmps.getD t undef)
  pend : ∀ i ∈ done, X i = false → Pend R σ hc ρ phi i
  inj : ∀ i ∈ done, ∀ j ∈ done, X i = false → X j = false → WA R σ i → WA R σ j → phi i = phi j → i = j
  phis : ∀ i ∈ done, X i = false → WA R σ i → hs.n ≤ phi i
  quiet : ∀ i ∈ done, R.effs.getD i true = false → kdOf R.l i ≠ .eff ∧ ∀ t ∈ nameOf R.l i, dstOf R.l i ≠ some t
  topo : ∀ i ∈ done, ∀ j ∈ R.bef.getD i [], j ∈ done
  bnd : ∀ i ∈ done, i < R.l.length
variable {R}
theorem names_cond {i j d : Nat} (hi : i < R.l.length) (hj : j < R.l.length) (hne : i ≠ j) (hd : dstOf R.l j = some d) : dstOf R.l i ≠ some d ∧ (d ∈ nameOf R.l i → j ∈ R.bef.getD i [] ∨ (i ∈ R.bef.getD j [] ∧ R.effs.getD j true = true)) := by
  have h := R.hnames
  unfold namesOK at h
  rw [List.all_eq_true] at h
  have h1 := h i (by simpa using hi)
  rw [List.all_eq_true] at h1
  have h2 := h1 j (by simpa using hj)
  rw [hd] at h2
  simp only [Bool.or_eq_true, Bool.and_eq_true, beq_iff_eq, bne_iff_ne, ne_eq, Bool.not_eq_true', List.contains_iff_mem] at h2
  rcases h2 with h2 | ⟨h3, h4⟩
  · exact absurd h2 hne
  · refine ⟨h3, fun hm => ?_⟩
    rcases h4 with (h4 | h4) | h4
    · rw [← Bool.not_eq_true, List.contains_iff_mem] at h4; exact absurd hm h4
    · exact .inl h4
    · exact .inr h4
theorem sched_cons {done : List Nat} {i : Nat} {js : List Nat} {rest : List (Nat × List Nat)} (h : schedOK R.ops.toList R.l R.bef R.effs done ((i, js) :: rest) = true) :
    i < R.l.length ∧ i ∉ done ∧ (∀ j ∈ R.bef.getD i [], j ∈ done) ∧ (R.effs.getD i true = true ∨ (js = [] ∧ kdOf R.l i ≠ .eff ∧ ∀ t ∈ nameOf R.l i, dstOf R.l i ≠ some t)) ∧
    (R.effs.getD i true = true → ∀ p ∈ rest, i ∈ R.bef.getD p.1 []) ∧ (R.effs.getD i true = true → ∀ j ∈ done, kdOf R.l j ≠ .lod ∨ R.effs.getD j true = true ∨ j ∈ R.bef.getD i [] ∨ j ∈ js) ∧
    schedOK R.ops.toList R.l R.bef R.effs (i :: done) rest = true := by
  simp only [schedOK, Bool.and_eq_true, Bool.or_eq_true, decide_eq_true_eq, Bool.not_eq_true', List.all_eq_true, List.contains_iff_mem, List.isEmpty_iff, bne_iff_ne, ne_eq] at h
  obtain ⟨⟨⟨⟨⟨⟨h1, h2⟩, h3⟩, h4⟩, h5⟩, h6⟩, h7⟩ := h
  refine ⟨h1, fun hm => ?_, h3, ?_, fun he p hp => ?_, fun he j hj => ?_, h7⟩
  · rw [← Bool.not_eq_true, List.contains_iff_mem] at h2; exact h2 hm
  · rcases h4 with h4 | ⟨⟨h4, h8⟩, h9⟩
    · exact .inl h4
    · refine .inr ⟨h4, h8, fun t ht he => ?_⟩
      rw [List.any_eq_false] at h9
      exact h9 t ht (by simp [he])
  · rcases h5 with h5 | h5
    · rw [he] at h5; cases h5
    · exact h5 p hp
  · rcases h6 with h6 | h6
    · rw [he] at h6; cases h6
    · rcases h6 j hj with ((h6 | h6) | h6) | h6
      · exact .inl h6
      · exact .inr (.inl h6)
      · exact .inr (.inr (.inl h6))
      · exact .inr (.inr (.inr h6))
theorem nameOf_some {i : Nat} {o : HOper} (h : R.l[i]? = some o) : nameOf R.l i = o.names := by simp [nameOf, h]
theorem dstOf_some {i : Nat} {o : HOper} (h : R.l[i]? = some o) : dstOf R.l i = o.dst := by simp [dstOf, h]
theorem kdOf_some {i : Nat} {o : HOper} (h : R.l[i]? = some o) : kdOf R.l i = o.op.kd := by simp [kdOf, h]
theorem reads_names {o : HOper} {x : Operand} {t : Nat} (hx : x ∈ o.op.reads) (ht : x = .tmp t) : t ∈ o.names := List.mem_append.2 (.inl (mem_tmps hx ht))
theorem guard_names {o : HOper} {t : Nat} {b : Bool} (h : o.guard = some (t, b)) : t ∈ o.names := by simp [HOper.names, h]
theorem ev_same {o : HOper} {σ σ1 : List Value} (h : ∀ t ∈ o.names, σ1.getD t undef = σ.getD t undef) : ∀ x ∈ o.op.reads, ev σ1 x = ev σ x := by
  intro x hx
  cases x with
  | tmp t => rw [ev_tmp, ev_tmp]; exact h t (reads_names hx rfl)
  | const v => rfl
  | global g => rfl
  | func f => rfl
theorem Pend.keep {σ σ1 : List Value} {hc h1 : Heap} {ρ ρ1 : Rho} {phi phi1 : Nat → Nat} {i : Nat} (hp : Pend R σ hc ρ phi i) (hl : σ1.length = σ.length) (hphi : phi1 i = phi i)
    (hn : ∀ t ∈ nameOf R.l i, σ1.getD t undef = σ.getD t undef) (hd : ∀ d, dstOf R.l i = some d → σ1.getD d undef = σ.getD d undef)
    (hx : ∀ o v, R.l[i]? = some o → wantedH σ1 o.guard = true → (o.op.kd = .pur ∨ o.op.kd = .lod) → xop lo σ hc o.op = some (v, hc) → (∀ d, o.dst = some d → d < σ1.length → σ1.getD d undef = v) → ∃ v2, xop lo σ1 h1 o.op = some (v2, h1) ∧ ∀ d, o.dst = some d → d < σ1.length → σ1.getD d undef = v2)
    (ha : ∀ o, R.l[i]? = some o → o.op.kd = .alc → phi i < hc.n → ρ (phi i) = none → phi i < h1.n ∧ ρ1 (phi i) = none ∧ h1.get (phi i) = hc.get (phi i)) : Pend R σ1 h1 ρ1 phi1 i := by
  obtain ⟨o, ho, p1, p2, p3⟩ := hp
  rw [nameOf_some ho] at hn
  rw [dstOf_some ho] at hd
  have hw : wantedH σ1 o.guard = wantedH σ o.guard := wanted_same (fun t b hg => hn t (guard_names hg)) hl
  refine ⟨o, ho, fun h => fun d hd' => ?_, fun h hk => ?_, fun h hk => ?_⟩
  · rw [hd d hd']; exact p1 (hw ▸ h) d hd'
  · obtain ⟨v, h2, h3⟩ := p2 (hw ▸ h) hk
    exact hx o v ho h hk h2 (fun d hd' hlt => by rw [hd d hd']; exact h3 d hd' (hl ▸ hlt))
  · obtain ⟨b, mk, q1, q2, q3, q4, q5, q6⟩ := p3 (hw ▸ h) hk
    obtain ⟨a1, a2, a3⟩ := ha o ho hk q2 q4
    rw [hphi]
    exact ⟨b, mk, by rw [alcOf_congr (ev_same hn)]; exact q1, a1, q3, a2, a3.trans q5, fun d hd' hlt => by rw [hd d hd']; exact q6 d hd' (hl ▸ hlt)⟩
theorem adv {ρs : Rho} {hs : Heap} {ws : World} {KN : List Value → Heap → Prop} {KP : Value → List Value → Heap → Prop} {X : Nat → Bool} {a : Act} {w : World} {ρ : Rho} : ∀ (todo : List (Nat × List Nat)) (phi : Nat → Nat) (done : List Nat) (σ : List Value) (hc : Heap),
    PInv R ρs hs ws KN KP X phi done todo σ hc a w ρ → ∃ phi' done' todo' σ' hc', PInv R ρs hs ws KN KP X phi' done' todo' σ' hc' a w ρ ∧ (∀ i js rest, todo' = (i, js) :: rest → R.effs.getD i true = true)
  | [], phi, done, σ, hc, hP => ⟨phi, done, [], σ, hc, hP, fun _ _ _ e => by cases e⟩
  | (i, js) :: rest, phi, done, σ, hc, hP => by
    by_cases he : R.effs.getD i true = true
    · exact ⟨phi, done, _, σ, hc, hP, fun i2 js2 r2 e => by cases e; exact he⟩
    · have he' : R.effs.getD i true = false := by simpa using he
      obtain ⟨s1, s2, s3, s4, s5, s6, s7⟩ := sched_cons hP.sch
      obtain ⟨hjs, hkd, hnd⟩ := s4.resolve_left he
      obtain ⟨o, ho, hst⟩ := hP.run
      rw [kdOf_some ho] at hkd
      obtain ⟨σ1, h1, hst, hrc, hrun⟩ := stepR_quiet hkd hst
      rw [nameOf_some ho, dstOf_some ho] at hnd
      have hXi : X i = false := hP.todoX (i, js) (by simp)
      have hstep : (∃ v, σ1 = putD σ o.dst v) ∧ σ1.length = σ.length ∧ (h1 = hc ∨ ∃ b, h1 = hc.pushB b ∧ (∀ cs c, b ≠ .row cs (some c))) ∧ Pend R σ1 h1 ρ (fun x => if x = i then hc.n else phi x) i := by
        unfold step1 at hst
        have hsame : ∀ v, ∀ t ∈ o.names, (putD σ o.dst v).getD t undef = σ.getD t undef := fun v t ht => putD_ne (fun e => hnd t ht e)
        have hw : ∀ v, wantedH (putD σ o.dst v) o.guard = wantedH σ o.guard := fun v => wanted_same (fun t b hg => hsame v t (guard_names hg)) (putD_len _ _ _)
        split at hst
        · rename_i hwt
          split at hst
          · rename_i v h2 hx
            cases hst
            have hx2 : xop lo σ hc o.op = some (v, h1) := by
              revert hx hkd
              cases o.op <;> intro hkd hx <;> first | exact hx | exact absurd rfl hkd
            have hk3 : o.op.kd = .pur ∨ o.op.kd = .lod ∨ o.op.kd = .alc := by cases hk : o.op.kd <;> simp_all
            have dstv : ∀ d, o.dst = some d → d < (putD σ o.dst v).length → (putD σ o.dst v).getD d undef = v := fun d hd hlt => by
              rw [putD_len] at hlt
              rw [hd]; exact putD_eq hlt
            have hread : ∀ x ∈ o.op.reads, ev (putD σ o.dst v) x = ev σ x := ev_same (hsame v)
            by_cases hal : o.op.kd = .alc
            · rw [xop_alc hal] at hx2
              obtain ⟨p, hp, e2⟩ := Option.map_eq_some_iff.1 hx2
              obtain ⟨b, mk⟩ := p
              cases e2
              have hbn : ∀ cs c, b ≠ .row cs (some c) := by
                intro cs c e
                subst e
                revert hp
                cases o.op <;> simp only [alcOf] <;> intro hp <;> (repeat' (first | (cases hp; done) | (obtain ⟨_, _, e3⟩ := Option.map_eq_some_iff.1 hp; cases e3; done) | split at hp))
              refine ⟨⟨_, rfl⟩, putD_len _ _ _, .inr ⟨b, rfl, hbn⟩, o, ho, fun h => ?_, fun h hk => ?_, fun h hk => ?_⟩
              · rw [hw] at h; rw [h] at hwt; cases hwt
              · rcases hk with hk | hk <;> rw [hal] at hk <;> cases hk
              · refine ⟨b, mk, by rw [alcOf_congr hread]; exact hp, ?_, ?_, ?_, ?_, ?_⟩
                · simp only [if_true]; show hc.n < hc.n + 1; omega
                · simp only [if_true]; exact hP.inv.lon
                · simp only [if_true]; exact hP.inv.none_n
                · simp only [if_true]; rw [get_pushB, if_pos rfl]
                · simp only [if_true]; exact dstv
            · have hpl : o.op.kd = .pur ∨ o.op.kd = .lod := by rcases hk3 with h | h | h <;> simp_all
              have := xop_same hpl hx2
              subst this
              refine ⟨⟨_, rfl⟩, putD_len _ _ _, .inl rfl, o, ho, fun h => ?_, fun h hk => ?_, fun h hk => absurd hk hal⟩
              · rw [hw] at h; rw [h] at hwt; cases hwt
              · exact ⟨v, by rw [xop_congr hread]; exact hx2, dstv⟩
          · cases hst
        · rename_i hwt
          cases hst
          refine ⟨⟨_, rfl⟩, putD_len _ _ _, .inl rfl, o, ho, fun h d hd => ?_, fun h => ?_, fun h => ?_⟩
          · rw [hd]
            by_cases hlt : d < σ.length
            · exact putD_eq hlt
            · simp only [putD, setS_eq, List.getD_eq_getElem?_getD]
              rw [List.getElem?_eq_none (by simp; omega)]; rfl
          · rw [hw] at h; exact absurd h hwt
          · rw [hw] at h; exact absurd h hwt
      obtain ⟨⟨v, hσ1⟩, hlen1, hheap, hpi⟩ := hstep
      have hgetm : ∀ b x, hc.get b = some x → h1.get b = some x := by
        rcases hheap with rfl | ⟨b0, rfl, _⟩
        · exact fun _ _ h => h
        · intro b x hb; rw [get_pushB, if_neg (Nat.ne_of_lt (Heap.get_lt hb))]; exact hb
      have hclm : ∀ c x, hc.cl c = some x → h1.cl c = some x := by
        rcases hheap with rfl | ⟨b0, rfl, _⟩ <;> exact fun _ _ h => h
      have hnle : hc.n ≤ h1.n := by
        rcases hheap with rfl | ⟨b0, rfl, _⟩
        · exact Nat.le_refl _
        · show hc.n ≤ hc.n + 1; omega
      have hinv1 : Inv lo n0 w0 ρ h1 w := by
        rcases hheap with rfl | ⟨b0, rfl, hb0⟩
        · exact hP.inv
        · exact hP.inv.pushB hb0
      have hext1 : Ext ρ ρ hc h1 w w := ⟨fun _ _ e => e, fun _ => Nat.le_refl _, hnle, fun b hb e => ⟨e, by
        rcases hheap with rfl | ⟨b0, rfl, _⟩
        · rfl
        · rw [get_pushB, if_neg (Nat.ne_of_lt hb)]⟩⟩
      have hdsti : dstOf R.l i = o.dst := dstOf_some ho
      have hold : ∀ p ∈ done, X p = false → (∀ t ∈ nameOf R.l p, σ1.getD t undef = σ.getD t undef) ∧ ∀ d, dstOf R.l p = some d → σ1.getD d undef = σ.getD d undef := by
        intro p hp hXp
        have hpi2 : p ≠ i := fun e => s2 (e ▸ hp)
        refine ⟨fun t ht => ?_, fun d hd => ?_⟩
        · rw [hσ1]; refine putD_ne fun e => ?_
          have hc1 := (names_cond (hP.bnd p hp) s1 hpi2 (hdsti.trans e)).2 ht
          rcases hc1 with h | ⟨h, h2⟩
          · exact s2 (hP.topo p hp i h)
          · rw [he'] at h2; cases h2
        · rw [hσ1]; refine putD_ne fun e => ?_
          exact (names_cond (hP.bnd p hp) s1 hpi2 (hdsti.trans e)).1 hd
      have back : ∀ q ∈ done, X q = false → WA R σ1 q → WA R σ q ∧ phi q < hc.n := by
          rintro q hq hXq ⟨oq, hoq, hkq, hwq⟩
          have hw2 : wantedH σ oq.guard = true := by
            rw [← hwq]; exact (wanted_same (fun t b hg => ((hold q hq hXq).1 t (by rw [nameOf_some hoq]; exact guard_names hg))) hlen1).symm
          refine ⟨⟨oq, hoq, hkq, hw2⟩, ?_⟩
          obtain ⟨o2, ho2, _, _, p3⟩ := hP.pend q hq hXq
          rw [hoq] at ho2; cases ho2
          obtain ⟨_, _, _, h5, _⟩ := p3 hw2 hkq
          exact h5
      have hP1 : PInv R ρs hs ws KN KP X (fun x => if x = i then hc.n else phi x) (i :: done) rest σ1 h1 a w ρ := by
        refine ⟨hinv1, hP.ext.trans hext1, hlen1.trans hP.len, hP.dfr, hrun, s7, fun p hp => hP.todoX p (by simp [hp]), fun j hj hXj => ?_, fun j hj => by simp [hP.sub j hj], hP.clo, fun t ht => ?_, fun j hj hXj => ?_, fun j hj k hk hXj hXk hkj hkk hphi => ?_, fun j hj hXj hwj => ?_, fun j hj hej => ?_, fun j hj k hk => ?_, fun j hj => ?_⟩
        · rcases List.mem_cons.1 hj with rfl | hj
          · exact he'
          · exact hP.doneX j hj hXj
        · have h2 : dstOf R.l i ≠ some t := ht i (by simp) hXi
          rw [hσ1, putD_ne (fun e => h2 (hdsti.trans e))]
          exact hP.rel t fun j hj hXj => ht j (by simp [hj]) hXj
        · rcases List.mem_cons.1 hj with rfl | hj
          · exact hpi
          · have hji : j ≠ i := fun e => s2 (e ▸ hj)
            obtain ⟨q1, q2⟩ := hold j hj hXj
            refine (hP.pend j hj hXj).keep hlen1 (by simp [hji]) q1 q2 (fun o2 v2 ho2 hw2 hk2 hx2 hd2 => ⟨v2, ?_, hd2⟩) (fun o2 ho2 hk2 hlt hρ => ⟨Nat.lt_of_lt_of_le hlt hnle, hρ, (hext1.keep _ hlt hρ).2⟩)
            rw [xop_congr (ev_same (by rw [← nameOf_some ho2]; exact q1))]
            exact xop_ext hk2 hgetm hclm hx2
        · rcases List.mem_cons.1 hj with rfl | hj1 <;> rcases List.mem_cons.1 hk with rfl | hk1
          · rfl
          · obtain ⟨_, h5⟩ := back k hk1 hXk hkk
            have hki : k ≠ j := fun e => s2 (e ▸ hk1)
            simp only [if_true, hki, if_false] at hphi
            omega
          · obtain ⟨_, h5⟩ := back j hj1 hXj hkj
            have hji : j ≠ k := fun e => s2 (e ▸ hj1)
            simp only [if_true, hji, if_false] at hphi
            omega
          · have hji : j ≠ i := fun e => s2 (e ▸ hj1)
            have hki : k ≠ i := fun e => s2 (e ▸ hk1)
            simp only [hji, hki, if_false] at hphi
            exact hP.inj j hj1 k hk1 hXj hXk (back j hj1 hXj hkj).1 (back k hk1 hXk hkk).1 hphi
        · rcases List.mem_cons.1 hj with rfl | hj1
          · simp only [if_true]; exact hP.ext.n
          · have hji : j ≠ i := fun e => s2 (e ▸ hj1)
            simp only [hji, if_false]
            exact hP.phis j hj1 hXj (back j hj1 hXj hwj).1
        · rcases List.mem_cons.1 hj with rfl | hj
          · rw [kdOf_some ho, nameOf_some ho, hdsti]; exact ⟨hkd, hnd⟩
          · exact hP.quiet j hj hej
        · rcases List.mem_cons.1 hj with rfl | hj
          · simp [s3 k hk]
          · simp [hP.topo j hj k hk]
        · rcases List.mem_cons.1 hj with rfl | hj
          · exact s1
          · exact hP.bnd j hj
      exact adv rest _ _ _ _ hP1
def addX (X : Nat → Bool) (i : Nat) : Nat → Bool := fun x => if x = i then true else X x
theorem addX_ne {X : Nat → Bool} {i j : Nat} (h : addX X i j = false) : j ≠ i ∧ X j = false := by
  unfold addX at h
  split at h
  · cases h
  · exact ⟨by assumption, h⟩
theorem addX_true {X : Nat → Bool} {i j : Nat} (h : addX X i j = true) : j = i ∨ X j = true := by
  unfold addX at h
  split at h
  · exact .inl (by assumption)
  · exact .inr h
theorem addX_of {X : Nat → Bool} {i j : Nat} (h : X j = true) : addX X i j = true := by
  unfold addX; split <;> simp_all
section steps
variable {ρs : Rho} {hs : Heap} {ws : World} {KN : List Value → Heap → Prop} {KP : Value → List Value → Heap → Prop} {X : Nat → Bool} {phi : Nat → Nat} {done : List Nat} {todo : List (Nat × List Nat)} {σ : List Value} {hc : Heap} {a : Act} {w : World} {ρ : Rho}
theorem rel_names (hP : PInv R ρs hs ws KN KP X phi done todo σ hc a w ρ) {i : Nat} (hi : i < R.l.length) (hr : ∀ j ∈ R.bef.getD i [], X j = true) (hq : i ∈ done → ∀ t ∈ nameOf R.l i, dstOf R.l i ≠ some t) : ∀ t ∈ nameOf R.l i, VR ρ w (σ.getD t undef) (a.tmps.getD t undef) := by
  intro t ht
  refine hP.rel t fun j hj hXj hd => ?_
  by_cases e : i = j
  · subst e; exact hq hj t ht hd
  · rcases (names_cond hi (hP.bnd j hj) e hd).2 ht with h | ⟨h, h2⟩
    · rw [hr j h] at hXj; cases hXj
    · rw [hP.doneX j hj hXj] at h2; cases h2
theorem oper_at {i : Nat} (hi : i < R.l.length) : ∃ o ho, R.ops[i]? = some o ∧ R.l[i]? = some ho ∧ compOper P R.ops o = some ho := by
  obtain ⟨h1, h2⟩ := compOps_get R.hl
  have hlt : i < R.ops.size := by rw [h1] at hi; simpa using hi
  obtain ⟨ho, k1, k2⟩ := h2 i R.ops[i] (by simp [hlt])
  exact ⟨R.ops[i], ho, by simp [hlt], k1, k2⟩
theorem rel_done (hP : PInv R ρs hs ws KN KP X phi done todo σ hc a w ρ) {i t : Nat} (ht : ∀ j ∈ done, addX X i j = false → dstOf R.l j ≠ some t) (hne : dstOf R.l i ≠ some t) : VR ρ w (σ.getD t undef) (a.tmps.getD t undef) :=
  hP.rel t fun j hj hXj => by
    by_cases e : j = i
    · subst e; exact hne
    · exact ht j hj (by simp [addX, e, hXj])
theorem step_pend (hP : PInv R ρs hs ws KN KP X phi done todo σ hc a w ρ) {i : Nat} (hi : i ∈ done) (hXi : X i = false) (hr : ∀ j ∈ R.bef.getD i [], X j = true) {K : Act → World → Prop} {Q : Exit → Act → World → Prop}
    (hK : ∀ a' w' ρ', PInv R ρs hs ws KN KP (addX X i) phi done todo σ hc a' w' ρ' → K a' w') : wpOp P R.ops Q i K a w := by
  have hlt := hP.bnd i hi
  obtain ⟨o, ho, e1, e2, hco⟩ := oper_at hlt
  obtain ⟨hq1, hq2⟩ := hP.quiet i hi (hP.doneX i hi hXi)
  have hrel := rel_names hP hlt hr (fun _ => hq2)
  rw [nameOf_some e2] at hrel
  obtain ⟨hcop, hdst, _⟩ := compOper_inv hco
  have hdi : dstOf R.l i = o.dst := (dstOf_some e2).trans hdst
  have hw := wanted_eq hco hP.len (fun t b hg => hrel t (guard_names hg))
  obtain ⟨o2, ho2, p1, p2, p3⟩ := hP.pend i hi hXi
  rw [e2] at ho2; cases ho2
  have next : ∀ (ρ' : Rho) (w' : World) (v' : Value), Inv lo n0 w0 ρ' hc w' → (∀ b x, ρ b = some x → ρ' b = some x) → (∀ r, rowSize w r ≤ rowSize w' r) → Ext ρs ρ' hs hc ws w' → (∀ d, o.dst = some d → d < σ.length → VR ρ' w' (σ.getD d undef) v') →
      (∀ j ∈ done, addX X i j = false → WA R σ j → ρ (phi j) = none → ρ' (phi j) = none) → PInv R ρs hs ws KN KP (addX X i) phi done todo σ hc (a.put o.dst v') w' ρ' := by
    intro ρ' w' v' hI hle hsz hext hv hnone
    refine ⟨hI, hext, by rw [put_size]; exact hP.len, by rw [put_dfr]; exact hP.dfr, hP.run, hP.sch, fun p hp => ?_, fun j hj hXj => hP.doneX j hj (addX_ne hXj).2, fun j hj => ?_, fun j hj k hk => ?_, fun t ht => ?_, fun j hj hXj => ?_, fun j hj k hk hXj hXk hwj hwk hphi => hP.inj j hj k hk (addX_ne hXj).2 (addX_ne hXk).2 hwj hwk hphi, fun j hj hXj hwj => hP.phis j hj (addX_ne hXj).2 hwj, hP.quiet, hP.topo, hP.bnd⟩
    · have h1 := hP.todoX p hp
      unfold addX
      split
      · rename_i e
        have : (schedOK R.ops.toList R.l R.bef R.effs done todo) = true := hP.sch
        exfalso
        have key : ∀ (todo : List (Nat × List Nat)) (dn : List Nat), i ∈ dn → schedOK R.ops.toList R.l R.bef R.effs dn todo = true → ∀ p ∈ todo, p.1 ≠ i := by
          intro todo
          induction todo with
          | nil => intro dn _ _ p hp; cases hp
          | cons q rest ih =>
            intro dn hdn hs p hp
            obtain ⟨q1, q2⟩ := q
            obtain ⟨_, s2, _, _, _, _, s7⟩ := sched_cons hs
            rcases List.mem_cons.1 hp with rfl | hp
            · intro e
              have e' : q1 = i := e
              exact s2 (e' ▸ hdn)
            · exact ih (q1 :: dn) (by simp [hdn]) s7 p hp
        exact key todo done hi this p hp e
      · exact h1
    · rcases addX_true hj with rfl | hj
      · exact hi
      · exact hP.sub j hj
    · rcases addX_true hj with rfl | hj
      · exact addX_of (hr k hk)
      · exact addX_of (hP.clo j hj k hk)
    · by_cases hd : dstOf R.l i = some t
      · rw [hdi] at hd
        rw [hd]
        by_cases htl : t < σ.length
        · rw [put_eq (by rw [← hP.len]; exact htl)]
          exact hv t hd htl
        · have h1 : σ.getD t undef = undef := by simp only [List.getD_eq_getElem?_getD]; rw [List.getElem?_eq_none (by omega)]; rfl
          have h2 : (a.put (some t) v').tmps.getD t undef = undef := by
            have : ¬ t < (a.put (some t) v').tmps.size := by rw [put_size, ← hP.len]; exact htl
            simp only [Array.getD_eq_getD_getElem?]; rw [Array.getElem?_eq_none (by omega)]; rfl
          rw [h1, h2]; exact VR.undef _ _
      · rw [put_ne (fun e => hd (hdi.trans e))]
        exact (rel_done hP ht hd).mono hle hsz
    · obtain ⟨hji, hXj'⟩ := addX_ne hXj
      obtain ⟨oj, hoj, b1, b2, b3⟩ := hP.pend j hj hXj'
      refine ⟨oj, hoj, b1, b2, fun hwj hkj => ?_⟩
      obtain ⟨b, mk, c1, c2, c3, c4, c5, c6⟩ := b3 hwj hkj
      exact ⟨b, mk, c1, c2, c3, hnone j hj hXj ⟨oj, hoj, hkj, hwj⟩ c4, c5, c6⟩
  unfold wpOp
  rw [e1]
  simp only [hw]
  by_cases hwt : wantedH σ ho.guard = true
  · rw [if_pos hwt]
    left
    by_cases hal : ho.op.kd = .alc
    · obtain ⟨b, mk, c1, c2, c3, c4, c5, c6⟩ := p3 hwt hal
      obtain ⟨obj, mkR, r1, r2, r3⟩ := alc_names hco a hrel c1
      obtain ⟨t1, t2, t3, t4⟩ := hP.inv.tellB c2 c3 c4 c5 r2
      unfold Oper.wp
      rw [r1]
      refine hK _ _ _ (next _ _ _ t1 t2 t3 ?_ (fun d hd hlt' => ?_) (fun j hj hXj hwj hρj => ?_))
      · refine ⟨fun b x e => t2 _ _ (hP.ext.le _ _ e), fun r => Nat.le_trans (hP.ext.sz r) (t3 r), hP.ext.n, fun b hb e => ?_⟩
        obtain ⟨k1, k2⟩ := hP.ext.keep b hb e
        refine ⟨t4 b (fun e3 => ?_) k1, k2⟩
        have := hP.phis i hi hXi ⟨ho, e2, hal, hwt⟩
        omega
      · rw [c6 d (hdst.trans hd) hlt']
        exact r3 _ _ _ _ (rho_new ρ (phi i) w.heap.size 0)
      · refine t4 _ (fun e => ?_) hρj
        exact (addX_ne hXj).1 (hP.inj j hj i hi (addX_ne hXj).2 hXi hwj ⟨ho, e2, hal, hwt⟩ e)
    · have hpl : ho.op.kd = .pur ∨ ho.op.kd = .lod := by
        rw [kdOf_some e2] at hq1
        cases hk : ho.op.kd <;> simp_all
      obtain ⟨v, x1, x2⟩ := p2 hwt hpl
      have hxo : xopR R.call lo σ hc ho.op (fun r g => r = .ret v ∧ g = hc) := by
        revert x1 hpl
        cases ho.op <;> intro hpl x1 <;> first | exact ⟨_, _, x1, rfl, rfl⟩ | (rcases hpl with h | h <;> cases h)
      refine oper_namesR R.hcall hP.inv hco a hrel hxo (fun v0 g v' w' ρ' k0 k1 k2 k3 => hK _ w' ρ' ?_) (fun _ _ _ _ _ k0 => by cases k0.1)
      obtain ⟨k00, rfl⟩ := k0
      cases k00
      rw [hdst]
      refine next ρ' w' v' k1 k2.le k2.sz (hP.ext.trans k2) (fun d hd hlt' => by rw [x2 d (hdst.trans hd) hlt']; exact k3) (fun j hj hXj hwj hρj => ?_)
      obtain ⟨oj, hoj, hkj, hwj2⟩ := hwj
      obtain ⟨o3, ho3, _, _, b3⟩ := hP.pend j hj (addX_ne hXj).2
      rw [hoj] at ho3; cases ho3
      obtain ⟨_, _, _, c2, _⟩ := b3 hwj2 hkj
      exact (k2.keep _ c2 hρj).1
  · rw [if_neg hwt]
    have hwf : wantedH σ ho.guard = false := by simpa using hwt
    refine hK _ _ _ (next ρ w undef hP.inv (fun _ _ e => e) (fun _ => Nat.le_refl _) hP.ext (fun d hd hlt' => ?_) (fun _ _ _ _ e => e))
    rw [p1 hwf d (hdst.trans hd)]
    exact VR.undef _ _
theorem step_eff {i : Nat} {js : List Nat} {rest : List (Nat × List Nat)} (hP : PInv R ρs hs ws KN KP X phi done ((i, js) :: rest) σ hc a w ρ) (he : R.effs.getD i true = true) (hr : ∀ j ∈ R.bef.getD i [], X j = true) {K : Act → World → Prop} {Q : Exit → Act → World → Prop}
    (hK : ∀ σ1 h1 a' w' ρ', PInv R ρs hs ws KN KP (addX X i) phi (i :: done) rest σ1 h1 a' w' ρ' → K a' w')
    (hKP : ∀ v h1 v' w' ρ', KP v σ h1 → Inv lo n0 w0 ρ' h1 w' → Ext ρ ρ' hc h1 w w' → VR ρ' w' v v' → Q (.panic [{ v := v', recovered := false }]) a w') : wpOp P R.ops Q i K a w := by
  obtain ⟨s1, s2, s3, s4, s5, s6, s7⟩ := sched_cons hP.sch
  obtain ⟨o', ho', hst⟩ := hP.run
  obtain ⟨o, ho, e1, e2, hco⟩ := oper_at s1
  have hoo : ho = o' := by rw [e2] at ho'; exact Option.some.inj ho'
  subst hoo
  have hrel := rel_names hP s1 hr (fun hm => absurd hm s2)
  rw [nameOf_some e2] at hrel
  obtain ⟨hcop, hdst, _⟩ := compOper_inv hco
  have hdi : dstOf R.l i = ho.dst := dstOf_some e2
  have hw := wanted_eq hco hP.len (fun t b hg => hrel t (guard_names hg))
  have next : ∀ (σ1 : List Value) (h1 : Heap) (ρ' : Rho) (w' : World) (v v' : Value), recheck lo R.l σ1 h1 js = true → drwsR R.call lo R.l KN KP rest σ1 h1 → σ1 = putD σ ho.dst v → Inv lo n0 w0 ρ' h1 w' → Ext ρ ρ' hc h1 w w' → VR ρ' w' v v' → PInv R ρs hs ws KN KP (addX X i) phi (i :: done) rest σ1 h1 (a.put o.dst v') w' ρ' := by
    intro σ1 h1 ρ' w' v v' hrc hrun hσ1 hI hE hV
    have hlen1 : σ1.length = σ.length := by rw [hσ1, putD_len]
    have hold : ∀ p ∈ done, X p = false → (∀ t ∈ nameOf R.l p, σ1.getD t undef = σ.getD t undef) ∧ ∀ d, dstOf R.l p = some d → σ1.getD d undef = σ.getD d undef := by
      intro p hp hXp
      have hpi2 : p ≠ i := fun e => s2 (e ▸ hp)
      refine ⟨fun t ht => ?_, fun d hd => ?_⟩
      · rw [hσ1]; refine putD_ne fun e => ?_
        rcases (names_cond (hP.bnd p hp) s1 hpi2 (hdi.trans e)).2 ht with h | ⟨h, _⟩
        · exact s2 (hP.topo p hp i h)
        · rw [hr p h] at hXp; cases hXp
      · rw [hσ1]; refine putD_ne fun e => ?_
        exact (names_cond (hP.bnd p hp) s1 hpi2 (hdi.trans e)).1 hd
    have back : ∀ q ∈ done, X q = false → WA R σ1 q → WA R σ q := by
      rintro q hq hXq ⟨oq, hoq, hkq, hwq⟩
      refine ⟨oq, hoq, hkq, ?_⟩
      rw [← hwq]; exact (wanted_same (fun t b hg => ((hold q hq hXq).1 t (by rw [nameOf_some hoq]; exact guard_names hg))) hlen1).symm
    have notin : ∀ j ∈ i :: done, addX X i j = false → j ∈ done ∧ X j = false := by
      intro j hj hXj
      obtain ⟨h2, h3⟩ := addX_ne hXj
      exact ⟨(List.mem_cons.1 hj).resolve_left h2, h3⟩
    refine ⟨hI, hP.ext.trans hE, by rw [put_size, hlen1]; exact hP.len, by rw [put_dfr]; exact hP.dfr, hrun, s7, fun p hp => ?_, fun j hj hXj => hP.doneX j (notin j hj hXj).1 (notin j hj hXj).2, fun j hj => ?_, fun j hj k hk => ?_, fun t ht => ?_, fun j hj hXj => ?_,
      fun j hj k hk hXj hXk hwj hwk hphi => hP.inj j (notin j hj hXj).1 k (notin k hk hXk).1 (notin j hj hXj).2 (notin k hk hXk).2 (back j (notin j hj hXj).1 (notin j hj hXj).2 hwj) (back k (notin k hk hXk).1 (notin k hk hXk).2 hwk) hphi,
      fun j hj hXj hwj => hP.phis j (notin j hj hXj).1 (notin j hj hXj).2 (back j (notin j hj hXj).1 (notin j hj hXj).2 hwj), fun j hj hej => ?_, fun j hj k hk => ?_, fun j hj => ?_⟩
    · have h2 := hP.todoX p (by simp [hp])
      unfold addX
      split
      · rename_i e
        exfalso
        have key : ∀ (todo : List (Nat × List Nat)) (dn : List Nat), i ∈ dn → schedOK R.ops.toList R.l R.bef R.effs dn todo = true → ∀ p ∈ todo, p.1 ≠ i := by
          intro todo
          induction todo with
          | nil => intro dn _ _ p hp; cases hp
          | cons q rest ih =>
            intro dn hdn hs p hp
            obtain ⟨q1, q2⟩ := q
            obtain ⟨_, s2, _, _, _, _, s7⟩ := sched_cons hs
            rcases List.mem_cons.1 hp with rfl | hp
            · intro e
              have e' : q1 = i := e
              exact s2 (e' ▸ hdn)
            · exact ih (q1 :: dn) (by simp [hdn]) s7 p hp
        exact key rest (i :: done) (by simp) s7 p hp e
      · exact h2
    · rcases addX_true hj with rfl | hj
      · simp
      · simp [hP.sub j hj]
    · rcases addX_true hj with rfl | hj
      · exact addX_of (hr k hk)
      · exact addX_of (hP.clo j hj k hk)
    · by_cases hd : dstOf R.l i = some t
      · rw [hdi] at hd
        rw [hσ1, ← hdst, hd]
        by_cases htl : t < σ.length
        · rw [put_eq (by rw [← hP.len]; exact htl)]
          simp only [putD, setS_eq]
          rw [getD_set_eq htl]
          exact hV
        · have h2 : (putD σ (some t) v).getD t undef = undef := by simp only [putD, setS_eq, List.getD_eq_getElem?_getD]; rw [List.getElem?_eq_none (by simp; omega)]; rfl
          have h3 : (a.put (some t) v').tmps.getD t undef = undef := by
            have : ¬ t < (a.put (some t) v').tmps.size := by rw [put_size, ← hP.len]; exact htl
            simp only [Array.getD_eq_getD_getElem?]; rw [Array.getElem?_eq_none (by omega)]; rfl
          rw [h2, h3]; exact VR.undef _ _
      · rw [hσ1, putD_ne (fun e => hd (hdi.trans e)), put_ne (fun e => hd (hdi.trans (hdst.trans e)))]
        refine (hP.rel t fun j hj hXj => ht j (by simp [hj]) ?_).mono hE.le hE.sz
        have hji : j ≠ i := fun e => s2 (e ▸ hj)
        simp [addX, hji, hXj]
    · obtain ⟨hjd, hXj'⟩ := notin j hj hXj
      obtain ⟨q1, q2⟩ := hold j hjd hXj'
      refine (hP.pend j hjd hXj').keep hlen1 rfl q1 q2 (fun o2 v2 ho2 hw2 hk2 hx2 hd2 => ?_) (fun o2 ho2 hk2 hlt hρ => ?_)
      · rcases hk2 with hk2 | hk2
        · refine ⟨v2, ?_, hd2⟩
          rw [xop_congr (ev_same (by rw [← nameOf_some ho2]; exact q1))]
          exact xop_pur hk2 hx2 h1
        · have hjs : j ∈ js := by
            rcases s6 he j hjd with h | h | h | h
            · rw [kdOf_some ho2] at h; exact absurd hk2 h
            · rw [hP.doneX j hjd hXj'] at h; cases h
            · rw [hr j h] at hXj'; cases hXj'
            · exact h
          obtain ⟨o3, ho3, h4⟩ := recheck_mem hrc j hjs
          rw [ho2] at ho3; cases ho3
          obtain ⟨d, v3, hh, h5, h6, h7⟩ := h4 hw2
          have := xop_same (.inr hk2) h6
          subst this
          exact ⟨v3, h6, fun d' hd' _ => by rw [h5] at hd'; cases hd'; exact h7⟩
      · obtain ⟨h5, h6⟩ := hE.keep _ hlt hρ
        exact ⟨Nat.lt_of_lt_of_le hlt hE.n, h5, h6⟩
    · rcases List.mem_cons.1 hj with rfl | hj
      · rw [he] at hej; cases hej
      · exact hP.quiet j hj hej
    · rcases List.mem_cons.1 hj with rfl | hj
      · simp [s3 k hk]
      · simp [hP.topo j hj k hk]
    · rcases List.mem_cons.1 hj with rfl | hj
      · exact s1
      · exact hP.bnd j hj
  unfold wpOp
  rw [e1]
  simp only [hw]
  unfold stepR at hst
  by_cases hwt : wantedH σ ho.guard = true
  · rw [if_pos hwt] at hst ⊢
    left
    refine oper_namesR R.hcall hP.inv hco a hrel hst (fun v h1 v' w' ρ' q k1 k2 k3 => ?_) (fun v h1 v' w' ρ' q k1 k2 k3 => hKP v h1 v' w' ρ' q k1 k2 k3)
    have hn := next _ h1 ρ' w' v v' q.1 q.2 rfl k1 k2 k3
    rw [← hdst] at hn
    exact hK _ _ _ w' ρ' hn
  · rw [if_neg hwt] at hst ⊢
    exact hK _ _ _ _ _ (next _ _ ρ w undef undef hst.1 hst.2 rfl hP.inv (Ext.refl _ _ _) (VR.undef _ _))
theorem all_done (hP : PInv R ρs hs ws KN KP X phi done todo σ hc a w ρ) (hall : ∀ i, i < R.l.length → X i = true) : KN σ hc ∧ Inv lo n0 w0 ρ hc w ∧ Ext ρs ρ hs hc ws w ∧ VRl ρ w σ a.tmps.toList ∧ a.defers = R.ds := by
  have ht : todo = [] := by
    cases todo with
    | nil => rfl
    | cons p rest =>
      obtain ⟨i, js⟩ := p
      obtain ⟨s1, _⟩ := sched_cons hP.sch
      have h1 := hP.todoX (i, js) (by simp)
      rw [hall i s1] at h1; cases h1
  subst ht
  refine ⟨hP.run, hP.inv, hP.ext, ⟨by rw [hP.len]; simp, fun t ht => ?_⟩, hP.dfr⟩
  have := hP.rel t fun j hj hXj => by rw [hall j (hP.bnd j hj)] at hXj; cases hXj
  rw [getD_toList] at this
  exact this
end steps
theorem ready_spec {listed : Array Bool} {i : Nat} (h : i ∈ Region.ready .any R.ops listed) : i < R.ops.size ∧ listed.getD i true = false ∧ ∃ o, R.ops[i]? = some o ∧ ∀ j ∈ onsOf o, listed.getD j false = true := by
  unfold Region.ready at h
  rw [List.mem_filter] at h
  obtain ⟨h1, h2⟩ := h
  simp only [Bool.and_eq_true, Bool.not_eq_true'] at h2
  have hlt : i < R.ops.size := by simpa using h1
  refine ⟨hlt, h2.1, R.ops[i], by simp [hlt], fun j hj => ?_⟩
  have h3 := h2.2
  rw [Array.getElem?_eq_getElem hlt] at h3
  simp only [Option.map_some, Option.getD_some] at h3
  unfold onsOf at hj
  rw [List.mem_filterMap] at hj
  obtain ⟨e, he, h4⟩ := hj
  split at h4
  · rename_i hb
    cases h4
    rw [← Array.all_toList, List.all_eq_true] at h3
    have := h3 e he
    rw [hb] at this
    simpa using this
  · cases h4
theorem ready_mem {listed : Array Bool} {i : Nat} {o : Oper} (h1 : R.ops[i]? = some o) (h2 : listed.getD i true = false) (h3 : ∀ j ∈ onsOf o, listed.getD j false = true) : i ∈ Region.ready .any R.ops listed := by
  unfold Region.ready
  rw [List.mem_filter]
  have hlt : i < R.ops.size := by
    rcases Nat.lt_or_ge i R.ops.size with h | h
    · exact h
    · rw [Array.getElem?_eq_none h] at h1; cases h1
  refine ⟨by simpa using hlt, ?_⟩
  rw [h1]
  simp only [h2, Bool.not_false, Option.map_some, Option.getD_some, Bool.true_and]
  rw [← Array.all_toList, List.all_eq_true]
  intro e he
  by_cases hb : Region.binds .any e = true
  · rw [h3 e.on (List.mem_filterMap.2 ⟨e, he, by rw [if_pos hb]⟩)]; simp
  · simp only [Bool.not_eq_true] at hb; rw [hb]; rfl
theorem bef_spec {i : Nat} {o : Oper} (h : R.ops[i]? = some o) : (∀ j ∈ onsOf o, j ∈ R.bef.getD i [] ∧ j < i) ∧ ∀ j ∈ R.bef.getD i [], j ∈ onsOf o ∨ ∃ k ∈ onsOf o, j ∈ R.bef.getD k [] := by
  have hb := R.hbef
  unfold befOK at hb
  rw [List.all_eq_true] at hb
  have hlt : i < R.ops.size := by
    rcases Nat.lt_or_ge i R.ops.size with h' | h'
    · exact h'
    · rw [Array.getElem?_eq_none h'] at h; cases h
  have h1 := hb i (by simpa using hlt)
  have h2 : R.ops.toList[i]? = some o := by simpa using h
  rw [h2] at h1
  simp only [Bool.and_eq_true, List.all_eq_true, List.contains_iff_mem, decide_eq_true_eq, List.any_eq_true, Bool.or_eq_true, beq_iff_eq] at h1
  obtain ⟨h3, h4⟩ := h1
  refine ⟨fun j hj => h3 j hj, fun j hj => ?_⟩
  obtain ⟨k, hk, h5⟩ := h4 j hj
  rcases h5 with h5 | h5
  · left; rw [← h5]; exact hk
  · right; exact ⟨k, hk, h5⟩
theorem ready_bef {listed : Array Bool} {X : Nat → Bool} (hX : ∀ i, X i = listed.getD i false) (hclo : ∀ i, X i = true → ∀ j ∈ R.bef.getD i [], X j = true) {i : Nat} (h : i ∈ Region.ready .any R.ops listed) : ∀ j ∈ R.bef.getD i [], X j = true := by
  obtain ⟨_, _, o, ho, h3⟩ := ready_spec h
  intro j hj
  rcases (bef_spec ho).2 j hj with h4 | ⟨k, hk, h4⟩
  · rw [hX]; exact h3 j h4
  · exact hclo k (by rw [hX]; exact h3 k hk) j h4
theorem count_add (X : Nat → Bool) (i : Nat) (hXi : X i = false) : ∀ n, i < n → ((List.range n).filter (addX X i)).length = ((List.range n).filter X).length + 1
  | 0, h => by omega
  | n + 1, h => by
    rw [List.range_succ, List.filter_append, List.filter_append, List.length_append, List.length_append]
    by_cases e : i = n
    · subst e
      have h1 : (List.range i).filter (addX X i) = (List.range i).filter X := by
        apply List.filter_congr
        intro j hj
        have : j ≠ i := by have := List.mem_range.1 hj; omega
        simp [addX, this]
      rw [h1]
      simp [addX, hXi]
    · have h2 := count_add X i hXi n (by omega)
      have h3 : addX X i n = X n := by simp [addX, show n ≠ i from fun z => e z.symm]
      rw [h2]
      simp only [List.filter_cons, h3, List.filter_nil]
      omega
theorem sched_cover : ∀ {todo : List (Nat × List Nat)} {done : List Nat}, schedOK R.ops.toList R.l R.bef R.effs done todo = true → ∀ i, i < R.l.length → i ∈ done ∨ ∃ p ∈ todo, p.1 = i
  | [], done, h, i, hi => by
    simp only [schedOK, List.all_eq_true, List.contains_iff_mem] at h
    exact .inl (h i (by simpa using hi))
  | (j, js) :: rest, done, h, i, hi => by
    obtain ⟨_, _, _, _, _, _, s7⟩ := sched_cons h
    rcases sched_cover s7 i hi with h1 | ⟨p, hp, h2⟩
    · rcases List.mem_cons.1 h1 with rfl | h1
      · exact .inr ⟨(i, js), by simp, rfl⟩
      · exact .inl h1
    · exact .inr ⟨p, by simp [hp], h2⟩
theorem any_ok {ρs : Rho} {hs : Heap} {ws : World} {KN : List Value → Heap → Prop} {KP : Value → List Value → Heap → Prop} {Q : Exit → Act → World → Prop}
    (hQ : ∀ σf hf a' w' ρ', KN σf hf → Inv lo n0 w0 ρ' hf w' → Ext ρs ρ' hs hf ws w' → VRl ρ' w' σf a'.tmps.toList → a'.defers = R.ds → Q .normal a' w')
    (hQP : ∀ v σ1 h1 v' a' w' ρ', KP v σ1 h1 → Inv lo n0 w0 ρ' h1 w' → Ext ρs ρ' hs h1 ws w' → VR ρ' w' v v' → σ1.length = a'.tmps.size → (∀ t, (∀ i, i < R.l.length → dstOf R.l i ≠ some t) → VR ρ' w' (σ1.getD t undef) (a'.tmps.getD t undef)) → a'.defers = R.ds → Q (.panic [{ v := v', recovered := false }]) a' w') :
    ∀ (fuel : Nat) (listed : Array Bool) (X : Nat → Bool) (phi : Nat → Nat) (done : List Nat) (todo : List (Nat × List Nat)) (σ : List Value) (hc : Heap) (a : Act) (w : World) (ρ : Rho), listed.size = R.ops.size → (∀ i, X i = listed.getD i false) →
      R.ops.size ≤ fuel + ((List.range R.ops.size).filter X).length → PInv R ρs hs ws KN KP X phi done todo σ hc a w ρ → (∀ i js rest, todo = (i, js) :: rest → R.effs.getD i true = true) → wpAny P .any R.ops Q fuel listed a w := by
  have hlen : R.l.length = R.ops.size := by have := (compOps_get R.hl).1; simpa using this
  have fin : ∀ (listed : Array Bool) (X : Nat → Bool) (phi : Nat → Nat) (done : List Nat) (todo : List (Nat × List Nat)) (σ : List Value) (hc : Heap) (a : Act) (w : World) (ρ : Rho), listed.size = R.ops.size → (∀ i, X i = listed.getD i false) → PInv R ρs hs ws KN KP X phi done todo σ hc a w ρ →
      Region.ready .any R.ops listed = [] → Q .normal a w := by
    intro listed X phi done todo σ hc a w ρ hsz hX hP hrd
    have allX : ∀ i, i < R.l.length → X i = true := by
      intro i
      induction i using Nat.strongRecOn with
      | _ i ih =>
        intro hi
        rw [hlen] at hi
        by_cases hXi : X i = true
        · exact hXi
        · exfalso
          have hXi' : X i = false := by simpa using hXi
          have ho : R.ops[i]? = some R.ops[i] := by simp [hi]
          have hall : ∀ j ∈ onsOf R.ops[i], listed.getD j false = true := fun j hj => by
            rw [← hX]
            have := ((bef_spec ho).1 j hj).2
            exact ih j this (by rw [hlen]; omega)
          have hl : listed.getD i true = false := by
            rw [hX] at hXi'
            have hi2 : i < listed.size := hsz ▸ hi
            simpa [Array.getD_eq_getD_getElem?, hi2] using hXi'
          have := ready_mem ho hl hall
          rw [hrd] at this; cases this
    obtain ⟨h0, h1, h2, h3, h4⟩ := all_done hP allX
    exact hQ _ _ a w ρ h0 h1 h2 h3 h4
  intro fuel
  induction fuel with
  | zero =>
    intro listed X phi done todo σ hc a w ρ hsz hX hcnt hP hhd
    have hrd : Region.ready .any R.ops listed = [] := by
      rw [List.eq_nil_iff_forall_not_mem]
      intro i hi
      obtain ⟨h1, h2, _⟩ := ready_spec hi
      have hXi : X i = false := by
        rw [hX]
        have hi2 : i < listed.size := hsz ▸ h1
        simpa [Array.getD_eq_getD_getElem?, hi2] using h2
      have h3 : ((List.range R.ops.size).filter X).length < (List.range R.ops.size).length := by
        refine Nat.lt_of_le_of_ne (List.length_filter_le _ _) fun e => ?_
        have := (List.length_filter_eq_length_iff.1 e) i (by simpa using h1)
        rw [hXi] at this; cases this
      simp at h3
      omega
    exact ⟨hrd, fin _ _ _ _ _ _ _ _ _ _ hsz hX hP hrd⟩
  | succ fuel ih =>
    intro listed X phi done todo σ hc a w ρ hsz hX hcnt hP hhd
    refine ⟨fun hrd => fin _ _ _ _ _ _ _ _ _ _ hsz hX hP hrd, fun i hi => ?_⟩
    obtain ⟨h1, h2, _⟩ := ready_spec hi
    have hi2 : i < listed.size := hsz ▸ h1
    have hXi : X i = false := by
      rw [hX]
      simpa [Array.getD_eq_getD_getElem?, hi2] using h2
    have hbf := ready_bef hX hP.clo hi
    have hsz' : (listed.setIfInBounds i true).size = R.ops.size := by simpa using hsz
    have hX' : ∀ j, addX X i j = (listed.setIfInBounds i true).getD j false := by
      intro j
      unfold addX
      by_cases e : j = i
      · subst e; simp [Array.getD_eq_getD_getElem?, hi2]
      · rw [if_neg e, hX]
        simp [Array.getD_eq_getD_getElem?, Array.getElem?_setIfInBounds_ne (show i ≠ j from fun z => e z.symm)]
    have hcnt' : R.ops.size ≤ fuel + ((List.range R.ops.size).filter (addX X i)).length := by
      rw [count_add X i hXi R.ops.size h1]; omega
    by_cases hd : i ∈ done
    · exact step_pend hP hd hXi hbf fun a' w' ρ' hP' => ih _ _ _ _ _ _ _ _ _ _ hsz' hX' hcnt' hP' hhd
    · have hcov := sched_cover hP.sch i (by rw [hlen]; exact h1)
      obtain ⟨p, hp, hpi⟩ := hcov.resolve_left hd
      cases todo with
      | nil => cases hp
      | cons q rest =>
        obtain ⟨e, js⟩ := q
        have he := hhd e js rest rfl
        by_cases hie : i = e
        · subst hie
          refine step_eff hP he hbf (fun σ1 h1 a' w' ρ' hP' => ?_) (fun v h1 v' w' ρ' q k1 k2 k3 => hQP v σ h1 v' a w' ρ' q k1 (hP.ext.trans k2) k3 hP.len (fun t ht => (hP.rel t fun j hj _ => ht j (hP.bnd j hj)).mono k2.le k2.sz) hP.dfr)
          obtain ⟨phi2, done2, todo2, σ2, hc2, hP2, hhd2⟩ := adv _ _ _ _ _ hP'
          exact ih _ _ _ _ _ _ _ _ _ _ hsz' hX' hcnt' hP2 hhd2
        · exfalso
          have hpr : p ∈ rest := by
            rcases List.mem_cons.1 hp with rfl | hp
            · exact absurd hpi.symm hie
            · exact hp
          obtain ⟨_, _, _, _, s5, _, _⟩ := sched_cons hP.sch
          have h3 := hbf e (hpi ▸ s5 he p hpr)
          rw [hP.todoX (e, js) (by simp)] at h3; cases h3
end
end
end Go.Proofs.Ytlidnionbofkaaa.Hm
namespace Go.Proofs.Ytlidnionbofkaaa.Hm
noncomputable section
open Go Go.RowKit
set_option linter.all false
set_option linter.unusedSimpArgs false
section
variable {lo n0 : Nat} {w0 : World} {P : Program}
theorem rops_okR {ds : List Deferred} {call : CallR} (hcall : CallROK P lo n0 w0 call) {ops : Array Oper} {Q : Exit → Act → World → Prop} {ρs : Rho} {hs : Heap} {ws : World} {KN : List Value → Heap → Prop} {KP : Value → List Value → Heap → Prop}
    (hQ : ∀ σf hf a' w' ρ', KN σf hf → Inv lo n0 w0 ρ' hf w' → Ext ρs ρ' hs hf ws w' → VRl ρ' w' σf a'.tmps.toList → a'.defers = ds → Q .normal a' w')
    (hQP : ∀ v σ1 h1 v' a' w' ρ', KP v σ1 h1 → Inv lo n0 w0 ρ' h1 w' → Ext ρs ρ' hs h1 ws w' → VR ρ' w' v v' → VRl ρ' w' σ1 a'.tmps.toList → a'.defers = ds → Q (.panic [{ v := v', recovered := false }]) a' w') :
    ∀ (k i : Nat), i + k = ops.size → ∀ (l : List HOper), compOps P ops (ops.toList.drop i) = some l → ∀ (σ : List Value) (h : Heap) (a : Act) (w : World) (ρ : Rho), Inv lo n0 w0 ρ h w → Ext ρs ρ hs h ws w → VRl ρ w σ a.tmps.toList → a.defers = ds →
      ropsR call lo KN KP l σ h → wpOps P ops Q (List.range' i k) a w
  | 0, i, hik, l, hl, σ, h, a, w, ρ, hI, hE, hV, hd, hr => by
    rw [List.drop_eq_nil_of_le (by simp; omega)] at hl
    cases hl
    simp only [List.range'_zero, wpOps]
    exact hQ _ _ a w ρ hr hI hE hV hd
  | k + 1, i, hik, l, hl, σ, h, a, w, ρ, hI, hE, hV, hd, hr => by
    have hlt : i < ops.toList.length := by simp; omega
    rw [List.drop_eq_getElem_cons hlt] at hl
    simp only [compOps] at hl
    split at hl
    · rename_i ho l2 hco hl2
      cases hl
      have hst : stepR call lo ho σ h (fun σ' h' => ropsR call lo KN KP l2 σ' h') (fun v h' => KP v σ h') := hr
      rw [List.range'_succ, wpOps_cons]
      have hoi : ops[i]? = some ops.toList[i] := by
        have : i < ops.size := by simpa using hlt
        simp [this]
      have hlen : σ.length = a.tmps.size := by have := hV.1; simpa using this
      have hrel : ∀ t, VR ρ w (σ.getD t undef) (a.tmps.getD t undef) := fun t => by rw [getD_toList]; exact hV.getD t
      have hw := wanted_eq hco hlen (fun t b _ => hrel t)
      obtain ⟨hcop, hdst, _⟩ := compOper_inv hco
      have hput : ∀ {ρ' : Rho} {w' : World} {v v' : Value}, VRl ρ' w' σ a.tmps.toList → VR ρ' w' v v' → VRl ρ' w' (putD σ ho.dst v) (a.put ops.toList[i].dst v').tmps.toList := by
        intro ρ' w' v v' h2 h3
        rw [← hdst]
        cases ho.dst with
        | none => exact h2
        | some d =>
          simp only [putD, setS_eq, Act.put, Array.toList_setIfInBounds]
          exact h2.set d h3
      unfold wpOp
      rw [hoi]
      simp only [hw]
      unfold stepR at hst
      by_cases hwt : wantedH σ ho.guard = true
      · rw [if_pos hwt] at hst ⊢
        left
        refine oper_namesR hcall hI hco a (fun t _ => hrel t) hst (fun v h2 v' w' ρ' k0 k1 k2 k3 => ?_) (fun v h2 v' w' ρ' k0 k1 k2 k3 => hQP v σ h2 v' a w' ρ' k0 k1 (hE.trans k2) k3 (hV.mono k2.le k2.sz) hd)
        rw [hdst]
        have k3' := hput (hV.mono k2.le k2.sz) k3
        exact rops_okR hcall hQ hQP k (i + 1) (by omega) l2 hl2 _ _ _ w' ρ' k1 (hE.trans k2) k3' (by rw [put_dfr]; exact hd) k0
      · rw [if_neg hwt] at hst ⊢
        exact rops_okR hcall hQ hQP k (i + 1) (by omega) l2 hl2 _ _ _ w ρ hI hE (hput hV (VR.undef _ _)) (by rw [put_dfr]; exact hd) hst
    · cases hl
theorem wipe_len : ∀ (ops : List HOper) (σ : List Value), (wipe ops σ).length = σ.length
  | [], σ => rfl
  | o :: os, σ => by rw [wipe, wipe_len os, putD_len]
theorem wipe_get : ∀ (ops : List HOper) (σ : List Value) (t : Nat), (wipe ops σ).getD t undef = undef ∨ ((∀ o ∈ ops, o.dst ≠ some t) ∧ (wipe ops σ).getD t undef = σ.getD t undef)
  | [], σ, t => .inr ⟨fun _ h => absurd h (by simp), rfl⟩
  | o :: os, σ, t => by
    rw [wipe]
    rcases wipe_get os (putD σ o.dst undef) t with h | ⟨h1, h2⟩
    · exact .inl h
    · by_cases hd : o.dst = some t
      · left
        rw [h2, hd]
        by_cases hlt : t < σ.length
        · exact putD_eq hlt
        · simp only [putD, setS_eq, List.getD_eq_getElem?_getD]; rw [List.getElem?_eq_none (by simp; omega)]; rfl
      · right
        refine ⟨fun x hx => ?_, by rw [h2, putD_ne hd]⟩
        rcases List.mem_cons.1 hx with rfl | hx
        · exact hd
        · exact h1 x hx
def VRw (ρ : Rho) (w : World) (l l' : List Value) : Prop := l.length = l'.length ∧ ∀ t, l.getD t undef = undef ∨ VR ρ w (l.getD t undef) (l'.getD t undef)
theorem VRw.mono {ρ ρ' : Rho} {w w' : World} {l l' : List Value} (h : VRw ρ w l l') (hρ : ∀ b x, ρ b = some x → ρ' b = some x) (hw : ∀ r, rowSize w r ≤ rowSize w' r) : VRw ρ' w' l l' := ⟨h.1, fun t => (h.2 t).imp id fun q => q.mono hρ hw⟩
theorem VRl.weak {ρ : Rho} {w : World} {l l' : List Value} (h : VRl ρ w l l') : VRw ρ w l l' := ⟨h.1, fun t => .inr (h.getD t)⟩
theorem drw_okR {ds : List Deferred} {call : CallR} (hcall : CallROK P lo n0 w0 call) {ops : Array Oper} {l : List HOper} (hl : compOps P ops ops.toList = some l)
    (hok : (schedOK ops.toList l (befs ops.toList) (effsOf l (befs ops.toList)) [] (schedOf l (befs ops.toList)) && befOK ops.toList (befs ops.toList) && namesOK l (befs ops.toList) (effsOf l (befs ops.toList))) = true)
    {Q : Exit → Act → World → Prop} {σ : List Value} {h : Heap} {a : Act} {w : World} {ρ : Rho} (hI : Inv lo n0 w0 ρ h w) (hV : VRl ρ w σ a.tmps.toList) (hd : a.defers = ds) {KN : List Value → Heap → Prop} {KP : Value → List Value → Heap → Prop} (hr : drwsR call lo l KN (fun v σ' => KP v (wipe l σ')) (schedOf l (befs ops.toList)) σ h)
    (hQ : ∀ σf hf a' w' ρ', KN σf hf → Inv lo n0 w0 ρ' hf w' → Ext ρ ρ' h hf w w' → VRl ρ' w' σf a'.tmps.toList → a'.defers = ds → Q .normal a' w')
    (hQP : ∀ v σ1 h1 v' a' w' ρ', KP v σ1 h1 → Inv lo n0 w0 ρ' h1 w' → Ext ρ ρ' h h1 w w' → VR ρ' w' v v' → VRw ρ' w' σ1 a'.tmps.toList → a'.defers = ds → Q (.panic [{ v := v', recovered := false }]) a' w') :
    wpAny P .any ops Q ops.size (Array.replicate ops.size false) a w := by
  simp only [Bool.and_eq_true] at hok
  obtain ⟨⟨h1, h2⟩, h3⟩ := hok
  let R : Reg P lo n0 w0 := ⟨ops, l, befs ops.toList, effsOf l (befs ops.toList), call, hcall, hl, h2, h3, ds⟩
  have hP : PInv R ρ h w KN (fun v σ' => KP v (wipe l σ')) (fun _ => false) (fun _ => 0) [] (schedOf l (befs ops.toList)) σ h a w ρ :=
    ⟨hI, Ext.refl _ _ _, by have := hV.1; simpa using this, hd, hr, h1, fun _ _ => rfl, fun i hi => absurd hi (by simp), fun i hi => (by cases hi), fun i hi => (by cases hi), fun t _ => by rw [getD_toList]; exact hV.getD t, fun i hi => absurd hi (by simp), fun i hi => absurd hi (by simp), fun i hi => absurd hi (by simp), fun i hi => absurd hi (by simp), fun i hi => absurd hi (by simp), fun i hi => absurd hi (by simp)⟩
  obtain ⟨phi, done, todo, σ', hc', hP', hhd⟩ := adv _ _ _ _ _ hP
  refine any_ok (R := R) hQ (fun v σ1 h1 v' a' w' ρ' q0 q1 q2 q3 q4 q5 q6 => hQP v _ h1 v' a' w' ρ' q0 q1 q2 q3 ?_ q6) _ _ _ _ _ _ _ _ _ _ _ (by simp; rfl) (fun i => ?_) (by show ops.size ≤ ops.size + _; omega) hP' hhd
  · refine ⟨by rw [wipe_len, q4]; simp, fun t => ?_⟩
    rcases wipe_get l σ1 t with h | ⟨g1, g2⟩
    · exact .inl h
    · right
      have q := q5 t fun i hi e => by
        have hi2 : i < l.length := hi
        have e2 : dstOf l i = some t := e
        unfold dstOf at e2
        rw [List.getElem?_eq_getElem hi2] at e2
        exact g1 l[i] (List.getElem_mem hi2) e2
      rw [getD_toList] at q
      rw [g2]; exact q
  · simp only [Array.getD_eq_getD_getElem?, Array.getElem?_replicate]
    split <;> rfl
def ExitR (ρ : Rho) (w : World) : Out → Exit → Prop
  | .nrm, e => e = .normal
  | .ret, e => e = .ret
  | .ext id, e => e = .exit id
  | .pan v, e => ∃ v', e = .panic [{ v := v', recovered := false }] ∧ VR ρ w v v'
def SlotR (ρ : Rho) (w : World) : Out → List Value → List Value → Prop
  | .pan _, l, l' => VRw ρ w l l'
  | _, l, l' => VRl ρ w l l'
def PostP (lo n0 : Nat) (w0 : World) (ds : List Deferred) (ρ : Rho) (h : Heap) (w : World) (Q : PostR) (e : Exit) (a' : Act) (w' : World) : Prop :=
  ∃ out σ' h' ρ', Q out σ' h' ∧ ExitR ρ' w' out e ∧ Inv lo n0 w0 ρ' h' w' ∧ Ext ρ ρ' h h' w w' ∧ SlotR ρ' w' out σ' a'.tmps.toList ∧ a'.defers = ds
theorem PostP.trans {ds : List Deferred} {ρ ρ1 : Rho} {h h1 : Heap} {w w1 : World} {Q Q' : PostR} (hQ : ∀ o s g, Q o s g → Q' o s g) {e : Exit} {a' : Act} {w' : World} (hE : Ext ρ ρ1 h h1 w w1) (hp : PostP lo n0 w0 ds ρ1 h1 w1 Q e a' w') : PostP lo n0 w0 ds ρ h w Q' e a' w' := by
  obtain ⟨out, σ', h', ρ', q0, q1, q2, q3, q4, q5⟩ := hp
  exact ⟨out, σ', h', ρ', hQ _ _ _ q0, q1, q2, hE.trans q3, q4, q5⟩
theorem PostP.mono {ds : List Deferred} {ρ : Rho} {h : Heap} {w : World} {Q Q' : PostR} (hQ : ∀ o s g, Q o s g → Q' o s g) {e : Exit} {a' : Act} {w' : World} (hp : PostP lo n0 w0 ds ρ h w Q e a' w') : PostP lo n0 w0 ds ρ h w Q' e a' w' := PostP.trans hQ (Ext.refl _ _ _) hp
def headWp (P : Program) (c : Code) (Q : Exit → Act → World → Prop) (a : Act) (w : World) : Prop := ∀ (b : Frame) (k : List Item) (cs : List Frame), ∃ e a' w', Q e a' w' ∧ Arrives P (lone (b.at a (.code c :: .inLoop c :: k)) cs w) b k cs e a' w'
theorem headWp.mono {c : Code} {Q Q' : Exit → Act → World → Prop} {a : Act} {w : World} (hq : ∀ e a w, Q e a w → Q' e a w) (h : headWp P c Q a w) : headWp P c Q' a w := fun b k cs => let ⟨e, a', w', q, r⟩ := h b k cs; ⟨e, a', w', hq _ _ _ q, r⟩
theorem head_unroll {c : Code} {Q : Exit → Act → World → Prop} {a : Act} {w : World} (h : c.wp P (Exit.then (headWp P c Q) Q) a w) : headWp P c Q a w := by
  intro b k cs
  obtain ⟨e, a₁, w₁, hq, harr⟩ := h b (.inLoop c :: k) cs
  cases e with
  | normal =>
    obtain ⟨e₂, a₂, w₂, hq₂, harr₂⟩ := hq b k cs
    exact ⟨e₂, a₂, w₂, hq₂, .of_steps (Steps.trans harr (.one step_inLoop)) harr₂⟩
  | exit id => exact ⟨_, a₁, w₁, hq, .pass (x := .inLoop c) rfl (fun _ _ => .inl (by simp)) harr⟩
  | goto l => exact ⟨_, a₁, w₁, hq, .pass (x := .inLoop c) rfl (fun _ _ => .inl (by simp)) harr⟩
  | ret => exact ⟨_, a₁, w₁, hq, .pass (x := .inLoop c) rfl (fun _ _ => .inl (by simp)) harr⟩
  | panic ch => exact ⟨_, a₁, w₁, hq, .pass (x := .inLoop c) rfl (fun _ _ => .inl (by simp)) harr⟩
  | outgrown => exact ⟨_, a₁, w₁, hq, .pass (x := .inLoop c) rfl (fun _ _ => .inl (by simp)) harr⟩
theorem loop_of_head {c : Code} {Q : Exit → Act → World → Prop} {a : Act} {w : World} (h : headWp P c Q a w) : (Code.loop c).wp P Q a w := fun b k cs => let ⟨e, a', w', q, r⟩ := h b k cs; ⟨e, a', w', q, .of_steps (.one step_loop) r⟩
def rvar (tmps : Array Value) : ResultVar → Sem Value
  | .tmp t => pure (tmps.getD t undef)
  | .cell a t => do loadVar t (← asAddr (tmps.getD a undef))
theorem ress_ok {ρ : Rho} {h : Heap} {w : World} (hI : Inv lo n0 w0 ρ h w) {σ : List Value} {tmps : Array Value} (hV : VRl ρ w σ tmps.toList) : ∀ (rs : List ResultVar) (hr : List (Nat × Option (Option Nat))) (l : List Value), compRes P rs = some hr → ress h σ hr = some l →
    ∃ l', (rs.mapM (rvar tmps)).run P w = .ok l' w ∧ VRl ρ w l l'
  | [], hr, l, hc, hl => by
    cases hc; simp only [ress] at hl; cases hl
    exact ⟨[], by simp, .nil _ _⟩
  | .tmp t :: rs, hr, l, hc, hl => by
    simp only [compRes] at hc
    obtain ⟨hr2, hc2, rfl⟩ := Option.map_eq_some_iff.1 hc
    simp only [ress, resOf] at hl
    split at hl
    · rename_i v vs hv hvs
      cases hv; cases hl
      obtain ⟨l2, k1, k2⟩ := ress_ok hI hV rs hr2 vs hc2 hvs
      refine ⟨tmps.getD t undef :: l2, ?_, .cons (by rw [getD_toList]; exact hV.getD t) k2⟩
      have hr1 : (rvar tmps (.tmp t)).run P w = Result.ok (tmps.getD t undef) w := rfl
      rw [List.mapM_cons, Sem.run_bind, hr1]
      simp only [Result.andThen_ok, Sem.run_bind, k1, Sem.run_pure]
    · cases hl
  | .cell a t :: rs, hr, l, hc, hl => by
    simp only [compRes] at hc
    split at hc
    · rename_i n g hr2 hn hg hc2
      cases hc
      simp only [ress] at hl
      split at hl
      · rename_i v vs hv hvs
        cases hl
        obtain ⟨l2, k1, k2⟩ := ress_ok hI hV rs hr2 vs hc2 hvs
        simp only [resOf] at hv
        split at hv
        · rename_i b o hb
          have va : VR ρ w (σ.getD a undef) (tmps.getD a undef) := by rw [getD_toList]; exact hV.getD a
          rw [hb] at va
          obtain ⟨r, s, hrr, hρ⟩ := ptr_inv va
          have key : ∃ v', (loadVar t ⟨r, s + o, none⟩).run P w = .ok v' w ∧ VR ρ w v v' := by
            cases g with
            | none =>
              simp only at hv
              obtain ⟨v', q1, q2, _⟩ := hI.rd1 (P := P) hρ hv
              exact ⟨v', by simp only [loadVar, Sem.run_bind, run_agg hg, Result.andThen_ok, Option.isSome_none, Bool.false_eq_true, if_false, q1], q2⟩
            | some m =>
              have hm := agg_size hg
              rw [hn] at hm; cases hm
              simp only at hv
              obtain ⟨cs, hcs, rfl⟩ := Option.map_eq_some_iff.1 hv
              obtain ⟨l', q1, q2, _, q4, _⟩ := hI.rd (P := P) hρ hcs
              exact ⟨.agg l', by simp only [loadVar, Sem.run_bind, run_agg hg, Result.andThen_ok, Option.isSome_some, if_true, run_size hn, q1, Sem.run_pure], VR.aggL q2 q4⟩
          obtain ⟨v', q1, q2⟩ := key
          refine ⟨v' :: l2, ?_, .cons q2 k2⟩
          have hr1 : (rvar tmps (.cell a t)).run P w = Result.ok v' w := by
            show (Sem.bind (asAddr (tmps.getD a undef)) fun z => loadVar t z).run P w = _
            rw [hrr]
            exact q1
          rw [List.mapM_cons, Sem.run_bind, hr1]
          simp only [Sem.run_pure, Result.andThen_ok, Sem.run_bind, k1]
        · cases hv
      · cases hl
    · cases hc
theorem ress_okW {ρ : Rho} {h : Heap} {w : World} (hI : Inv lo n0 w0 ρ h w) {σ : List Value} {tmps : Array Value} (hV : VRw ρ w σ tmps.toList) : ∀ (rs : List ResultVar) (hr : List (Nat × Option (Option Nat))) (l : List Value), compRes P rs = some hr → (hr.all fun r => r.2.isSome) = true → ress h σ hr = some l →
    ∃ l', (rs.mapM (rvar tmps)).run P w = .ok l' w ∧ VRl ρ w l l'
  | [], hr, l, hc, ha, hl => by
    cases hc; simp only [ress] at hl; cases hl
    exact ⟨[], by simp, .nil _ _⟩
  | .tmp t :: rs, hr, l, hc, ha, hl => by
    simp only [compRes] at hc
    obtain ⟨hr2, hc2, rfl⟩ := Option.map_eq_some_iff.1 hc
    simp at ha
  | .cell a t :: rs, hr, l, hc, ha, hl => by
    simp only [compRes] at hc
    split at hc
    · rename_i n g hr2 hn hg hc2
      cases hc
      simp only [List.all_cons, Bool.and_eq_true] at ha
      simp only [ress] at hl
      split at hl
      · rename_i v vs hv hvs
        cases hl
        obtain ⟨l2, k1, k2⟩ := ress_okW hI hV rs hr2 vs hc2 ha.2 hvs
        simp only [resOf] at hv
        split at hv
        · rename_i b o hb
          have va : VR ρ w (σ.getD a undef) (tmps.getD a undef) := by
            rcases hV.2 a with h | h
            · rw [hb] at h; cases h
            · rw [getD_toList]; exact h
          rw [hb] at va
          obtain ⟨r, s, hrr, hρ⟩ := ptr_inv va
          have key : ∃ v', (loadVar t ⟨r, s + o, none⟩).run P w = .ok v' w ∧ VR ρ w v v' := by
            cases g with
            | none =>
              simp only at hv
              obtain ⟨v', q1, q2, _⟩ := hI.rd1 (P := P) hρ hv
              exact ⟨v', by simp only [loadVar, Sem.run_bind, run_agg hg, Result.andThen_ok, Option.isSome_none, Bool.false_eq_true, if_false, q1], q2⟩
            | some m =>
              have hm := agg_size hg
              rw [hn] at hm; cases hm
              simp only at hv
              obtain ⟨cs, hcs, rfl⟩ := Option.map_eq_some_iff.1 hv
              obtain ⟨l', q1, q2, _, q4, _⟩ := hI.rd (P := P) hρ hcs
              exact ⟨.agg l', by simp only [loadVar, Sem.run_bind, run_agg hg, Result.andThen_ok, Option.isSome_some, if_true, run_size hn, q1, Sem.run_pure], VR.aggL q2 q4⟩
          obtain ⟨v', q1, q2⟩ := key
          refine ⟨v' :: l2, ?_, .cons q2 k2⟩
          have hr1 : (rvar tmps (.cell a t)).run P w = Result.ok v' w := by
            show (Sem.bind (asAddr (tmps.getD a undef)) fun z => loadVar t z).run P w = _
            rw [hrr]
            exact q1
          rw [List.mapM_cons, Sem.run_bind, hr1]
          simp only [Sem.run_pure, Result.andThen_ok, Sem.run_bind, k1]
        · cases hv
      · cases hl
    · cases hc
theorem results_of {w : World} {tmps : Array Value} {fn : Func} {l l' : List Value} {ρ : Rho} (k1 : (fn.results.toList.mapM (rvar tmps)).run P w = .ok l' w) (k2 : VRl ρ w l l') : ∃ v', (results fn tmps).run P w = .ok v' w ∧ VR ρ w (tupled l) v' := by
  unfold results
  rw [Sem.run_bind, Array.mapM_eq_mapM_toList, Sem.run_map]
  have hfun : ∀ f : ResultVar → Sem Value, (∀ r, f r = rvar tmps r) → (List.mapM f fn.results.toList).run P w = Result.ok l' w := fun f hf => by rw [show f = rvar tmps from funext hf]; exact k1
  rw [hfun _ (fun r => by cases r <;> rfl)]
  simp only [Result.andThen_ok, Sem.run_pure]
  refine ⟨_, rfl, ?_⟩
  cases l with
  | nil =>
    have : l' = [] := List.length_eq_zero_iff.1 (by have := k2.1; simpa using this.symm)
    subst this
    simp only [List.size_toArray, List.length_nil]
    exact .tupL (.nil _ _)
  | cons v rest =>
    cases rest with
    | nil =>
      obtain ⟨v', rfl⟩ : ∃ v', l' = [v'] := by
        have := k2.1
        cases l' with
        | nil => cases this
        | cons x xs => cases xs with
          | nil => exact ⟨x, rfl⟩
          | cons y ys => simp at this
      have := k2.2 0 (by simp)
      simpa [tupled] using this
    | cons v2 rest =>
      have hlen := k2.1
      have hne : ¬ (l'.toArray.size = 1) := by simp at hlen ⊢; omega
      rw [dif_neg hne]
      exact .tupL (by simpa using k2)
theorem results_ok {ρ : Rho} {h : Heap} {w : World} (hI : Inv lo n0 w0 ρ h w) {σ : List Value} {tmps : Array Value} (hV : VRl ρ w σ tmps.toList) {fn : Func} {hr : List (Nat × Option (Option Nat))} {l : List Value} (hc : compRes P fn.results.toList = some hr) (hl : ress h σ hr = some l) :
    ∃ v', (results fn tmps).run P w = .ok v' w ∧ VR ρ w (tupled l) v' := by
  obtain ⟨l', k1, k2⟩ := ress_ok (P := P) hI hV _ _ _ hc hl
  exact results_of k1 k2
end
end
end Go.Proofs.Ytlidnionbofkaaa.Hm
namespace Go.Proofs.Ytlidnionbofkaaa.Hm
noncomputable section
open Go Go.RowKit
set_option linter.all false
set_option linter.unusedSimpArgs false
def seqs : List Code → Code → Code
  | [], c => c
  | p :: ps, c => .seq p (seqs ps c)
def splitD : Code → Option (List Code × Nat × Oper × Oper × Code)
  | .seq (.region id ops false) b => match ops.toList with
    | [oA, oB] => match oB.op with
      | .defer _ => some ([], id, oA, oB, b)
      | _ => (splitD b).map fun r => (.region id ops false :: r.1, r.2)
    | _ => (splitD b).map fun r => (.region id ops false :: r.1, r.2)
  | .seq a b => (splitD b).map fun r => (a :: r.1, r.2)
  | _ => none
theorem splitD_ok : ∀ {c : Code} {ps : List Code} {id : Nat} {oA oB : Oper} {b : Code}, splitD c = some (ps, id, oA, oB, b) → c = seqs ps (.seq (.region id #[oA, oB] false) b) := by
  intro c
  induction c using splitD.induct with
  | case1 id ops b oA oB hops _ hd => intro ps id' oA' oB' b' h; rw [splitD, hops] at h; simp only [hd] at h; cases h; rw [show ops = #[oA, oB] from Array.toList_inj.1 hops]; rfl
  | case2 id ops b oA oB hops hd ih =>
    intro ps id' oA' oB' b' h
    rw [splitD, hops] at h
    simp only at h
    obtain ⟨⟨q1, q2⟩, hq, e⟩ := Option.map_eq_some_iff.1 h
    cases e
    rw [ih hq]; rfl
  | case3 id ops b hne ih =>
    intro ps id' oA' oB' b' h
    rw [splitD] at h
    split at h
    · rename_i oA oB hops; exact absurd hops (hne oA oB)
    · obtain ⟨⟨q1, q2⟩, hq, e⟩ := Option.map_eq_some_iff.1 h
      cases e
      rw [ih hq]; rfl
  | case4 a b hne ih =>
    intro ps id' oA' oB' b' h
    rw [splitD] at h
    · obtain ⟨⟨q1, q2⟩, hq, e⟩ := Option.map_eq_some_iff.1 h
      cases e
      rw [ih hq]; rfl
    · exact hne
  | case5 c h1 h2 => intro ps id' oA' oB' b' h; rw [splitD] at h <;> first | cases h | assumption
def comps (P : Program) : List Code → Option (List HC)
  | [] => some []
  | c :: cs => match comp P c, comps P cs with
    | some h, some hs => some (h :: hs)
    | _, _ => none
def compG (P : Program) (g : Nat) : Option (Nat × Nat × HC) :=
  match P.funcs[g]? with
  | none => none
  | some fn => if fn.name = "runtime.NumGoroutine" ∨ fn.results.toList ≠ [] then none else
    match fn.body with
    | some (.seq (.region _ ops false) rest) => match ops.toList with
      | [oR] => match oR.op, oR.dst, oR.guard with
        | .call ⟨.builtin .recover, args, _⟩, some t, none => if args.toList = [] then (comp P rest).map fun h => (fn.ntmps, t, h) else none
        | _, _, _ => none
      | _ => none
    | _ => none
def compD (P : Program) (k : Nat) : Option DFn :=
  match P.funcs[k]? with
  | none => none
  | some fn => if fn.name = "runtime.NumGoroutine" then none else
    match fn.body with
    | none => none
    | some c => match splitD c with
      | none => none
      | some (ps, _, oA, oB, b) =>
        match oA.op, oA.dst, oA.guard, oB.op, oB.dst, oB.guard with
        | .makeFunc (.func g) first caps, some t, none, .defer ⟨.value (.tmp t'), args, _⟩, none, none =>
          if t = t' ∧ t < fn.ntmps ∧ first.toList = [] ∧ args.toList = [] ∧ okOps caps.toList = true then
            match comps P ps, comp P b, compRes P fn.results.toList, compG P g with
            | some hps, some hb, some r, some (dn, dr, db) => some { ntmps := fn.ntmps, res := r, pres := hps, tmp := t, clo := g, caps := caps.toList, post := hb, dn := dn, drec := dr, dbody := db }
            | _, _, _, _ => none
          else none
        | _, _, _, _, _, _ => none
section
variable {P : Program}
theorem compG_inv {g dn dr : Nat} {db : HC} (h : compG P g = some (dn, dr, db)) : ∃ fn id oR rest args ats, P.funcs[g]? = some fn ∧ (fn.name == "runtime.NumGoroutine") = false ∧ fn.results.toList = [] ∧ fn.body = some (.seq (.region id #[oR] false) rest) ∧
    oR.op = .call ⟨.builtin .recover, args, ats⟩ ∧ args = #[] ∧ oR.dst = some dr ∧ oR.guard = none ∧ comp P rest = some db ∧ fn.ntmps = dn := by
  unfold compG at h
  split at h
  · cases h
  · rename_i fn hfn
    split at h
    · cases h
    · rename_i hn
      have hn1 : fn.name ≠ "runtime.NumGoroutine" := fun e => hn (.inl e)
      have hn2 : fn.results.toList = [] := Classical.byContradiction fun e => hn (.inr e)
      split at h
      · rename_i id ops rest hb
        split at h
        · rename_i oR hops
          split at h
          · rename_i args ats t ho hdst hg
            split at h
            · rename_i ha
              obtain ⟨hc, hcomp, e⟩ := Option.map_eq_some_iff.1 h
              cases e
              refine ⟨fn, id, oR, rest, args, ats, hfn, by simpa using hn1, hn2, ?_, ho, Array.toList_inj.1 (by simpa using ha), hdst, hg, hcomp, rfl⟩
              rw [hb, show ops = #[oR] from Array.toList_inj.1 hops]
            · cases h
          · cases h
        · cases h
      · cases h
theorem compD_inv {k : Nat} {d : DFn} (h : compD P k = some d) : ∃ fn ps id oA oB b first caps args ats, P.funcs[k]? = some fn ∧ (fn.name == "runtime.NumGoroutine") = false ∧ fn.body = some (seqs ps (.seq (.region id #[oA, oB] false) b)) ∧
    oA.op = .makeFunc (.func d.clo) first caps ∧ oA.dst = some d.tmp ∧ oA.guard = none ∧ oB.op = .defer ⟨.value (.tmp d.tmp), args, ats⟩ ∧ oB.dst = none ∧ oB.guard = none ∧ d.tmp < fn.ntmps ∧ first = #[] ∧ args = #[] ∧ okOps caps.toList = true ∧
    comps P ps = some d.pres ∧ comp P b = some d.post ∧ compRes P fn.results.toList = some d.res ∧ compG P d.clo = some (d.dn, d.drec, d.dbody) ∧ d.caps = caps.toList ∧ d.ntmps = fn.ntmps := by
  unfold compD at h
  split at h
  · cases h
  · rename_i fn hfn
    split at h
    · cases h
    · rename_i hn
      split at h
      · cases h
      · rename_i c hb
        split at h
        · cases h
        · rename_i ps id oA oB b hs
          split at h
          · rename_i g first caps t t' args ats hA hAd hAg hB hBd hBg
            split at h
            · rename_i hc
              obtain ⟨rfl, c2, c3, c4, c5⟩ := hc
              split at h
              · rename_i hps hpb r dn dr db e1 e2 e3 e4
                cases h
                exact ⟨fn, ps, id, oA, oB, b, first, caps, args, ats, hfn, by simpa using hn, by rw [hb, splitD_ok hs], hA, hAd, hAg, hB, hBd, hBg, c2, Array.toList_inj.1 (by simpa using c3), Array.toList_inj.1 (by simpa using c4), c5, e1, e2, e3, e4, rfl, rfl⟩
              · cases h
            · cases h
          · cases h
end
end
end Go.Proofs.Ytlidnionbofkaaa.Hm
namespace Go.Proofs.Ytlidnionbofkaaa.Hm
noncomputable section
open Go Go.RowKit
set_option linter.all false
set_option linter.unusedSimpArgs false
def PrimOK (P : Program) (k : Nat) (p : Nat → List Value → Heap → Option (Value × Heap)) : Prop := ∀ lo n0 w0, CallOK P lo n0 w0 fun f vs h => if f = k then p lo vs h else none
def SemOK (P : Program) (k : Nat) (s : Nat → List Value → Heap → (Rv → Heap → Prop) → Prop) : Prop := ∀ lo n0 w0, CallROK P lo n0 w0 fun f vs h K => f = k ∧ s lo vs h K
def FOK (P : Program) (F : Nat → Option HFn) : Prop := ∀ k fn, F k = some fn → compFn P k = some fn ∨ (fn.sem = none ∧ ∃ p, fn.prim = some p ∧ PrimOK P k p) ∨ (∃ s, fn.sem = some (.fn s) ∧ SemOK P k s) ∨ ∃ d, fn.sem = some (.dfn d) ∧ compD P k = some d
section
variable {lo n0 : Nat} {w0 : World} {P : Program} {F : Nat → Option HFn}
def RunOK (P : Program) (lo n0 : Nat) (w0 : World) : RunT := fun c σ h Q =>
  (∀ code, comp P code = some c → ∀ ds a w ρ, Inv lo n0 w0 ρ h w → VRl ρ w σ a.tmps.toList → a.defers = ds → code.wp P (PostP lo n0 w0 ds ρ h w Q) a w) ∧
  ∀ code c', c = .loop c' → comp P code = some c' → ∀ ds a w ρ, Inv lo n0 w0 ρ h w → VRl ρ w σ a.tmps.toList → a.defers = ds → headWp P code (PostP lo n0 w0 ds ρ h w Q) a w
theorem compFn_inv {k : Nat} {hf : HFn} (h : compFn P k = some hf) : ∃ fn c, P.funcs[k]? = some fn ∧ (fn.name == "runtime.NumGoroutine") = false ∧ fn.body = some c ∧ comp P c = some hf.body ∧ compRes P fn.results.toList = some hf.res ∧ hf.ntmps = fn.ntmps := by
  unfold compFn at h
  split at h
  · cases h
  · rename_i fn hfn
    split at h
    · cases h
    · rename_i hname
      split at h
      · cases h
      · rename_i c hb
        split at h
        · rename_i b r h1 h2
          cases h
          exact ⟨fn, c, hfn, by simpa using hname, hb, h1, h2, rfl⟩
        · cases h
theorem compFn_prim {k : Nat} {hf : HFn} (h : compFn P k = some hf) : hf.prim = none := by
  unfold compFn at h
  split at h
  · cases h
  · split at h
    · cases h
    · split at h
      · cases h
      · split at h
        · cases h; rfl
        · cases h
theorem compFn_sem {k : Nat} {hf : HFn} (h : compFn P k = some hf) : hf.sem = none := by
  unfold compFn at h
  split at h
  · cases h
  · split at h
    · cases h
    · split at h
      · cases h
      · split at h
        · cases h; rfl
        · cases h
theorem callFunc_enter {f : FuncId} {fn : Func} {c : Code} (hf : P.funcs[f]? = some fn) (hname : (fn.name == "runtime.NumGoroutine") = false) (hb : fn.body = some c) (args : Array Value) (w : World) :
    (callFunc f args).run P w = .ok (.enter f args) w := by
  have h1 : fn.name ≠ "runtime.NumGoroutine" := by simpa using hname
  simp [callFunc, hf, h1, hb]
theorem VRl.slots {ρ : Rho} {w : World} {vs : List Value} {args : Array Value} (h : VRl ρ w vs args.toList) (n : Nat) : VRl ρ w (vs ++ List.replicate (n - vs.length) undef) (args ++ Array.replicate (n - args.size) undef).toList := by
  have hl : vs.length = args.size := by have := h.1; simpa using this
  rw [Array.toList_append, Array.toList_replicate, hl]
  refine h.append ⟨rfl, fun i hi => ?_⟩
  have : ∀ l : List Value, (∀ x ∈ l, x = undef) → l.getD i undef = undef := fun l hl => by
    rw [List.getD_eq_getElem?_getD]
    cases e : l[i]? with
    | none => rfl
    | some x => exact hl x (List.mem_of_getElem? e)
  rw [this _ fun x hx => (List.eq_of_mem_replicate hx)]
  exact VR.undef _ _
theorem Lf_ok {c : HC} {σ : List Value} {h : Heap} {Q : PostR} (hl : Lf (RunOK P lo n0 w0) c σ h Q) {code : Code} (hc : comp P code = some c) {ds : List Deferred} {a : Act} {w : World} {ρ : Rho} (hI : Inv lo n0 w0 ρ h w) (hV : VRl ρ w σ a.tmps.toList) (hd : a.defers = ds) : code.wp P (PostP lo n0 w0 ds ρ h w Q) a w := by
  obtain ⟨Q1, h1, h2⟩ := hl
  exact wp_mono (h1.1 code hc ds a w ρ hI hV hd) fun e a' w' hp => PostP.mono h2 hp
theorem Ext.drew {ρ : Rho} {h : Heap} {w : World} : Ext ρ ρ h h w w.drew := ⟨fun _ _ e => e, fun _ => Nat.le_refl _, Nat.le_refl _, fun _ _ e => ⟨e, rfl⟩⟩
theorem VR.bool_inv {ρ : Rho} {w : World} {b : Bool} {y : Value} (h : VR ρ w (.bool b) y) : y = .bool b := by
  cases h; rfl
theorem eval_ev {ρ : Rho} {w : World} {σ : List Value} {a : Act} (hV : VRl ρ w σ a.tmps.toList) {x : Operand} (h : okOp x = true) : VR ρ w (ev σ x) (a.eval x) := by
  cases x with
  | tmp t => show VR ρ w (ev σ (.tmp t)) (a.tmps.getD t undef); rw [ev_tmp, getD_toList]; exact hV.getD t
  | const v => exact VR.plainV h
  | global g => cases h
  | func f => exact VR.fn _ _ _ _ _ rfl rfl (fun i hi => absurd hi (by simp)) (fun i hi => absurd hi (by simp))
theorem pres_wp {QH : PostR} {Q : Exit → Act → World → Prop} {body : Code} : ∀ {ps : List Code} {hps : List HC}, comps P ps = some hps → ∀ {σ : List Value} {h : Heap} {a : Act} {w : World} {ρ : Rho}, preR (RunOK P lo n0 w0) hps σ h QH →
    Inv lo n0 w0 ρ h w → VRl ρ w σ a.tmps.toList → a.defers = [] →
    (∀ out σ' h' a' w' ρ', QH out σ' h' → Inv lo n0 w0 ρ' h' w' → Ext ρ ρ' h h' w w' → SlotR ρ' w' out σ' a'.tmps.toList → a'.defers = [] → match out with
      | .nrm => body.wp P Q a' w'
      | o => ∀ e, ExitR ρ' w' o e → Q e a' w') → (seqs ps body).wp P Q a w
  | [], hps, hc, σ, h, a, w, ρ, hp, hI, hV, hd, k => by
    cases hc
    exact k .nrm σ h a w ρ hp hI (Ext.refl _ _ _) hV hd
  | c :: ps, hps, hc, σ, h, a, w, ρ, hp, hI, hV, hd, k => by
    simp only [comps] at hc
    split at hc
    · rename_i hc1 hcs e1 e2
      cases hc
      refine wp_seq (wp_mono (Lf_ok hp e1 hI hV hd) fun e a1 w1 hq => ?_)
      obtain ⟨out, σ1, h1, ρ1, q0, q1, q2, q3, q4, q5⟩ := hq
      cases out with
      | nrm =>
        cases q1
        exact pres_wp e2 q0 q2 q4 q5 fun out σ' h' a' w' ρ' r0 r1 r2 r3 r4 => k out σ' h' a' w' ρ' r0 r1 (q3.trans r2) r3 r4
      | ret => cases q1; exact k .ret σ1 h1 a1 w1 ρ1 q0 q2 q3 q4 q5 _ rfl
      | ext id => cases q1; exact k (.ext id) σ1 h1 a1 w1 ρ1 q0 q2 q3 q4 q5 _ rfl
      | pan v => obtain ⟨v', rfl, hv⟩ := q1; exact k (.pan v) σ1 h1 a1 w1 ρ1 q0 q2 q3 q4 q5 _ ⟨v', rfl, hv⟩
    · cases hc
theorem closure_calls {g dn dr : Nat} {db : HC} (hg : compG P g = some (dn, dr, db)) {cs : List Value} {caps : Array Value} {h : Heap} {ρ : Rho} {w : World} {Q3 : PostR} {pv pv' : Value} {u : FrameMode}
    (hI : Inv lo n0 w0 ρ h w) (hV : VRl ρ w cs caps.toList) (hpv : (u = .returning ∧ pv = .nilIface) ∨ (u = .panicking [{ v := pv', recovered := false }] ∧ VR ρ w pv pv')) (hr : Lf (RunOK P lo n0 w0) db ((cs ++ List.replicate (dn - cs.length) undef).set dr pv) h Q3)
    (ho : ∀ o s g, Q3 o s g → o = .nrm ∨ o = .ret) {R : Ending → FrameMode → World → Prop}
    (hR : ∀ o s v h' ρ' w' u', Q3 o s h' → Inv lo n0 w0 ρ' h' w' → Ext ρ ρ' h h' w w' → settle u' = .returning → R (.returned v) u' w') : (callFunc g caps).run P w = .ok (.enter g caps) w ∧ CallsD P g caps u w R := by
  obtain ⟨fn, id, oR, rest, args, ats, h1, h2, h3, h4, h5, h6, h7, h8, h9, h10⟩ := compG_inv hg
  refine ⟨callFunc_enter h1 h2 h4 caps w, callsD_of_wpS h1 h4 fun c₀ fs hm => ?_⟩
  have hlen : cs.length = caps.size := by have := hV.1; simpa using this
  have hc₀ : ({ c₀ with mode := u } : Frame) = c₀ := by rw [← hm]
  refine wpS_seq (wpS_region ?_)
  have hrun : ∀ (a : Act) (w : World), (execOp a.eval oR).run P w = .ok .recover w := by
    intro a w
    unfold execOp
    rw [h5, h6]
    rfl
  have hwant : ∀ tm, Region.wanted oR (yielded #[oR] tm) = true := fun tm => by simp [Region.wanted, h8]
  show wpOpsS P #[oR] _ [0] _ _ _
  have hV2 : ∀ {y : Value}, VR ρ w pv y → VRl ρ w ((cs ++ List.replicate (dn - cs.length) undef).set dr pv) (({ tmps := caps ++ Array.replicate (fn.ntmps - caps.size) undef, defers := [] } : Act).put oR.dst y).tmps.toList := by
    intro y hy
    rw [h7, h10]
    simp only [Act.put, Array.toList_setIfInBounds]
    exact (hV.slots dn).set dr hy
  have key : ∀ (y : Value) (u' : FrameMode), VR ρ w pv y → settle u' = .returning → Exit.thenS (rest.wpS P (bodyPostS P fn c₀ fs R)) (bodyPostS P fn c₀ fs R) .normal (({ tmps := caps ++ Array.replicate (fn.ntmps - caps.size) undef, defers := [] } : Act).put oR.dst y) ({ c₀ with mode := u' } :: fs) w := by
    intro y u' hy hu'
    show rest.wpS P _ _ _ _
    refine wpS_of_wp ?_
    refine wp_mono (Lf_ok hr h9 hI (hV2 hy) (ds := []) (by rw [put_dfr])) fun e a1 w1 hq => ?_
    obtain ⟨out, σ3, g3, ρ3, q0, q1, q2, q3, q4, q5⟩ := hq
    rcases ho _ _ _ q0 with rfl | rfl
    · cases q1
      obtain ⟨v', r1, r2⟩ := results_ok (P := P) (fn := fn) q2 q4 (hr := []) (l := []) (by rw [h3]; rfl) rfl
      exact ⟨q5, u', rfl, v', r1, hR _ _ v' g3 ρ3 w1 u' q0 q2 q3 hu'⟩
    · cases q1
      obtain ⟨v', r1, r2⟩ := results_ok (P := P) (fn := fn) q2 q4 (hr := []) (l := []) (by rw [h3]; rfl) rfl
      exact ⟨q5, u', rfl, v', r1, hR _ _ v' g3 ρ3 w1 u' q0 q2 q3 hu'⟩
  rcases hpv with ⟨rfl, rfl⟩ | ⟨rfl, hpv⟩
  · have hrec : recoverD (c₀ :: fs) = none := by simp [recoverD, hm]
    simp only [wpOpsS, List.getElem?_toArray, List.getElem?_cons_zero, hwant, if_true, hrun, hrec]
    have := key .nilIface .returning .nili rfl
    rw [hc₀] at this
    exact this
  · have hrec : recoverD (c₀ :: fs) = some (pv', { c₀ with mode := .panicking [{ v := pv', recovered := true }] } :: fs) := by simp [recoverD, hm]
    simp only [wpOpsS, List.getElem?_toArray, List.getElem?_cons_zero, hwant, if_true, hrun, hrec]
    exact key pv' (.panicking [{ v := pv', recovered := true }]) hpv rfl
theorem defer_ok {f : Nat} {d : DFn} (hc : compD P f = some d) : CallROK P lo n0 w0 fun f' vs h K => f' = f ∧ deferR (RunOK P lo n0 w0) d vs h K := by
  intro f' vs h K hp ρ w args hI hV
  obtain ⟨rfl, hcell, hp⟩ := hp
  obtain ⟨fn, ps, id, oA, oB, b, first, caps, dargs, ats, h1, h2, h3, hA, hAd, hAg, hB, hBd, hBg, ht, hfirst, hdargs, hok, e1, e2, e3, e4, e5, e6⟩ := compD_inv hc
  subst hfirst; subst hdargs
  refine ⟨callFunc_enter h1 h2 h3 args w, calls_of_wp_defers h1 h3 ?_⟩
  refine pres_wp e1 hp hI (by rw [e6]; exact hV.slots _) rfl fun out σ h1' a' w' ρ' q0 q1 q2 q3 q4 => ?_
  cases out with
  | ext id => exact q0.elim
  | pan v => exact q0.elim
  | ret =>
    intro e he
    cases he
    show Leaves P fn a'.tmps _ a'.defers .returning w'
    rw [q4]
    obtain ⟨l, hl, hk⟩ := q0
    obtain ⟨v', r1, r2⟩ := results_ok (P := P) q1 q3 e3 hl
    exact ⟨v', r1, .ret (tupled l), h1', ρ', hk, q1, q2, v', rfl, r2⟩
  | nrm =>
    have q3 : VRl ρ' w' σ a'.tmps.toList := q3
    obtain ⟨htl, q0⟩ : d.tmp < σ.length ∧ Lf (RunOK P lo n0 w0) d.post (σ.set d.tmp (.func (.func d.clo) #[] ⟨d.caps.map (ev σ)⟩)) h1' (postD (RunOK P lo n0 w0) d σ K) := q0
    show (Code.seq (.region id #[oA, oB] false) b).wp P _ a' w'
    have vcaps : VRl ρ' w' (d.caps.map (ev σ)) (caps.toList.map a'.eval) := by
      rw [e5]
      exact VRl.map fun x hx => eval_ev q3 (okOps_mem hok hx)
    have hcv : VR ρ' w' (.func (.func d.clo) #[] ⟨d.caps.map (ev σ)⟩) (.func (.func d.clo) #[] (caps.map a'.eval)) := by
      refine .fn _ _ _ _ _ rfl (by simp [e5]) (fun i hi => absurd hi (by simp)) (fun i hi => ?_)
      rw [getD_toList, getD_toList, Array.toList_map]; exact vcaps.getD i
    refine wp_seq (wp_region ?_)
    have hwA : ∀ tm, Region.wanted oA (yielded #[oA, oB] tm) = true := fun tm => by simp [Region.wanted, hAg]
    have hwB : ∀ tm, Region.wanted oB (yielded #[oA, oB] tm) = true := fun tm => by simp [Region.wanted, hBg]
    have hxA : (execOp a'.eval oA).run P w' = .ok (.value (.func (.func d.clo) #[] (caps.map a'.eval))) w' := by
      unfold execOp
      rw [hA]
      simp [Instr.makeFunc]
    have hev : (a'.put oA.dst (.func (.func d.clo) #[] (caps.map a'.eval))).eval (.tmp d.tmp) = .func (.func d.clo) #[] (caps.map a'.eval) := by
      have hsz : d.tmp < a'.tmps.size := by
        have h9 : σ.length = a'.tmps.size := by have := q3.1; simpa using this
        omega
      rw [hAd]
      show (a'.put (some d.tmp) _).tmps.getD d.tmp undef = _
      exact put_eq hsz
    have hxB : (execOp (a'.put oA.dst (.func (.func d.clo) #[] (caps.map a'.eval))).eval oB).run P w' = .ok (.defer ⟨.fn (.func d.clo) (caps.map a'.eval), #[]⟩) w' := by
      unfold execOp
      rw [hB]
      simp only [resolve, hev, Deferred.ofValue]
      simp
    show wpOps P #[oA, oB] _ [0, 1] a' w'
    unfold wpOps
    simp only [List.getElem?_toArray, List.getElem?_cons_zero, hwA, if_true]
    refine .inl ?_
    unfold Oper.wp
    rw [hxA, Oper.upon_value]
    unfold wpOps
    simp only [List.getElem?_toArray, List.getElem?_cons_succ, List.getElem?_cons_zero, hwB, if_true]
    refine .inl ?_
    unfold Oper.wp
    rw [hxB, Oper.upon_defer]
    unfold wpOps
    show b.wp P _ _ w'
    rw [hBd]
    have hV2 : VRl ρ' w' (σ.set d.tmp (.func (.func d.clo) #[] ⟨d.caps.map (ev σ)⟩)) (({ a'.put oA.dst (.func (.func d.clo) #[] (caps.map a'.eval)) with defers := ⟨.fn (.func d.clo) (caps.map a'.eval), #[]⟩ :: (a'.put oA.dst (.func (.func d.clo) #[] (caps.map a'.eval))).defers } : Act).put none undef).tmps.toList := by
      rw [hAd]
      simp only [Act.put, Array.toList_setIfInBounds]
      exact q3.set d.tmp hcv
    refine wp_mono (Lf_ok q0 e2 q1 hV2 rfl) fun e a2 w2 hq => ?_
    obtain ⟨out2, σ2, g2, ρ2, r0, r1, r2, r3, r4, r5⟩ := hq
    have hdf : (a'.put oA.dst (.func (.func d.clo) #[] (caps.map a'.eval))).defers = [] := by rw [put_dfr]; exact q4
    have vc2 : VRl ρ2 w2 (d.caps.map (ev σ)) (caps.map a'.eval).toList := by
      rw [Array.toList_map]; exact vcaps.mono r3.le r3.sz
    have r5' : a2.defers = [⟨.fn (.func d.clo) (caps.map a'.eval), #[]⟩] := by
      rw [r5]
      show ⟨.fn (.func d.clo) (caps.map a'.eval), #[]⟩ :: (a'.put oA.dst (.func (.func d.clo) #[] (caps.map a'.eval))).defers = _
      rw [hdf]
    have key : ∀ (u : FrameMode) (pv pv' : Value), u ≠ .run → ((u = .returning ∧ pv = .nilIface) ∨ (u = .panicking [{ v := pv', recovered := false }] ∧ VR ρ2 w2 pv pv')) → Lf (RunOK P lo n0 w0) d.dbody (dslots d σ pv) g2 (finR d σ2 K) → VRw ρ2 w2 σ2 a2.tmps.toList →
        Leaves P fn a2.tmps (fun e w' => ∃ r h' ρ', K r h' ∧ Inv lo n0 w0 ρ' h' w' ∧ Ext ρ ρ' h h' w w' ∧ EndR ρ' w' r e) a2.defers u w2 := by
      intro u pv pv' hu hpv hrd hslot
      rw [r5']
      unfold dslots at hrd
      rw [show d.caps.length = (d.caps.map (ev σ)).length by simp] at hrd
      obtain ⟨c1, c2⟩ := closure_calls (P := P) e4 r2 vc2 hpv hrd (fun o s g q => by
        cases o with
        | nrm => exact .inl rfl
        | ret => exact .inr rfl
        | ext id => exact q.elim
        | pan v => exact q.elim) (R := fun e u' w' => match e with
          | .returned _ => Leaves P fn a2.tmps (fun e w' => ∃ r h' ρ', K r h' ∧ Inv lo n0 w0 ρ' h' w' ∧ Ext ρ ρ' h h' w w' ∧ EndR ρ' w' r e) [] (settle u') w'
          | .panicked chain => Leaves P fn a2.tmps (fun e w' => ∃ r h' ρ', K r h' ∧ Inv lo n0 w0 ρ' h' w' ∧ Ext ρ ρ' h h' w w' ∧ EndR ρ' w' r e) [] (raised u' chain) w'
          | .outgrown => False) (fun o s v3 g3 ρ3 w3 u3 s0 s1 s2 hset => by
        show Leaves P fn a2.tmps _ [] (settle u3) w3
        rw [hset]
        have hfin : ∃ l, ress g3 σ2 d.res = some l ∧ K (.ret (tupled l)) g3 := by
          cases o with
          | nrm => exact s0
          | ret => exact s0
          | ext id => exact s0.elim
          | pan v => exact s0.elim
        obtain ⟨l, hl, hk⟩ := hfin
        obtain ⟨l', t1, t2⟩ := ress_okW (P := P) s1 (hslot.mono s2.le s2.sz) _ _ _ e3 hcell hl
        obtain ⟨v', t3, t4⟩ := results_of (P := P) (fn := fn) t1 t2
        exact ⟨v', t3, .ret (tupled l), g3, ρ3, hk, s1, q2.trans (r3.trans s2), v', rfl, t4⟩)
      refine leaves_cons hu (by simpa [invoke] using c1) ?_
      refine c2.mono fun e u' w' hq => ?_
      cases e with
      | returned v9 => exact hq
      | panicked chain => exact hq
      | outgrown => exact hq.elim
    cases out2 with
    | ext id => exact r0.elim
    | nrm =>
      cases r1
      exact key .returning .nilIface .nilIface (by simp) (.inl ⟨rfl, rfl⟩) r0 (VRl.weak r4)
    | ret =>
      cases r1
      exact key .returning .nilIface .nilIface (by simp) (.inl ⟨rfl, rfl⟩) r0 (VRl.weak r4)
    | pan v =>
      obtain ⟨v', rfl, hv⟩ := r1
      exact key (.panicking [{ v := v', recovered := false }]) v v' (by simp) (.inr ⟨rfl, hv⟩) r0 r4
theorem callR_ok (hF : FOK P F) : CallROK P lo n0 w0 (callR F lo (RunOK P lo n0 w0)) := by
  intro k vs h K hc ρ w args hI hV
  obtain ⟨hf, hFk, hm⟩ := hc
  rcases hF k hf hFk with hF1 | ⟨hs, p, hp, hok⟩ | ⟨s, hs, hok⟩ | ⟨d, hs, hcd⟩
  · obtain ⟨fn, c, h1, h2, h3, h4, h5, h6⟩ := compFn_inv hF1
    rw [compFn_sem hF1, compFn_prim hF1] at hm
    dsimp only at hm
    refine ⟨callFunc_enter h1 h2 h3 args w, calls_of_wp h1 h3 ?_⟩
    refine wp_mono (Lf_ok hm h4 (ds := []) (a := { tmps := args ++ Array.replicate (fn.ntmps - args.size) undef, defers := [] }) hI (by rw [h6]; exact hV.slots _) rfl) fun e a' w' hp => ?_
    obtain ⟨out, σ', h', ρ', q0, q1, q2, q3, q4, q5⟩ := hp
    cases out with
    | ext id => exact q0.elim
    | nrm =>
      cases q1
      obtain ⟨l, hl, hk⟩ := q0
      obtain ⟨v', k1, k2⟩ := results_ok q2 q4 h5 hl
      exact ⟨q5, v', k1, _, h', ρ', hk, q2, q3, v', rfl, k2⟩
    | ret =>
      cases q1
      obtain ⟨l, hl, hk⟩ := q0
      obtain ⟨v', k1, k2⟩ := results_ok q2 q4 h5 hl
      exact ⟨q5, v', k1, _, h', ρ', hk, q2, q3, v', rfl, k2⟩
    | pan v =>
      obtain ⟨v', rfl, k2⟩ := q1
      exact ⟨q5, _, h', ρ', q0, q2, q3, v', rfl, k2⟩
  · rw [hs, hp] at hm
    obtain ⟨v, h', h1, h2⟩ := hm
    obtain ⟨k1, k2⟩ := hok lo n0 w0 k vs h v h' (by simpa using h1) ρ w args hI hV
    exact ⟨k1, k2.mono fun e w' ⟨v', ρ', q0, q1, q2, q3⟩ => ⟨.ret v, h', ρ', h2, q1, q2, v', q0, q3⟩⟩
  · rw [hs] at hm
    obtain ⟨K1, h1, h2⟩ := hm
    obtain ⟨k1, k2⟩ := hok lo n0 w0 k vs h K1 ⟨rfl, h1⟩ ρ w args hI hV
    exact ⟨k1, k2.mono fun e w' ⟨r, h', ρ', q0, q⟩ => ⟨r, h', ρ', h2 _ _ q0, q⟩⟩
  · rw [hs] at hm
    exact defer_ok hcd k vs h K ⟨rfl, hm⟩ ρ w args hI hV
theorem step_ok (hF : FOK P F) (hmix : P.follows .mixedOrders = true) (c : HC) (σ : List Value) (h : Heap) (Q : PostR) (hs : Step F lo (RunOK P lo n0 w0) c σ h Q) : RunOK P lo n0 w0 c σ h Q := by
  have hhead : ∀ code c', c = .loop c' → comp P code = some c' → ∀ ds a w ρ, Inv lo n0 w0 ρ h w → VRl ρ w σ a.tmps.toList → a.defers = ds → headWp P code (PostP lo n0 w0 ds ρ h w Q) a w := by
    intro code c' hc hcomp ds a w ρ hI hV hd
    subst hc
    refine head_unroll (wp_mono (Lf_ok hs hcomp hI hV hd) fun e a1 w1 hp => ?_)
    obtain ⟨out, σ1, h1, ρ1, q0, q1, q2, q3, q4, q5⟩ := hp
    cases out with
    | nrm =>
      cases q1
      obtain ⟨Q1, k1, k2⟩ := q0
      exact (k1.2 code c' rfl hcomp ds a1 w1 ρ1 q2 q4 q5).mono fun e a2 w2 hp => PostP.trans k2 q3 hp
    | ret => cases q1; exact ⟨.ret, σ1, h1, ρ1, q0, rfl, q2, q3, q4, q5⟩
    | ext id => cases q1; exact ⟨.ext id, σ1, h1, ρ1, q0, rfl, q2, q3, q4, q5⟩
    | pan v => obtain ⟨v', rfl, hv⟩ := q1; exact ⟨.pan v, σ1, h1, ρ1, q0, ⟨v', rfl, hv⟩, q2, q3, q4, q5⟩
  refine ⟨fun code => ?_, hhead⟩
  induction code with
  | skip => intro hcomp ds a w ρ hI hV hd; cases hcomp; exact wp_skip ⟨.nrm, σ, h, ρ, hs, rfl, hI, Ext.refl _ _ _, hV, hd⟩
  | label l => intro hcomp ds a w ρ hI hV hd; cases hcomp; exact wp_label ⟨.nrm, σ, h, ρ, hs, rfl, hI, Ext.refl _ _ _, hV, hd⟩
  | ret => intro hcomp ds a w ρ hI hV hd; cases hcomp; exact wp_ret ⟨.ret, σ, h, ρ, hs, rfl, hI, Ext.refl _ _ _, hV, hd⟩
  | exit id => intro hcomp ds a w ρ hI hV hd; cases hcomp; exact wp_exit ⟨.ext id, σ, h, ρ, hs, rfl, hI, Ext.refl _ _ _, hV, hd⟩
  | goto l => intro hcomp; cases hcomp
  | refuse s => intro hcomp; cases hcomp
  | rangeFunc f ps x y _ _ => intro hcomp; cases hcomp
  | seq x y _ _ =>
    intro hcomp ds a w ρ hI hV hd
    simp only [comp] at hcomp
    split at hcomp
    · rename_i hx hy ex ey
      cases hcomp
      refine wp_seq (wp_mono (Lf_ok hs ex hI hV hd) fun e a1 w1 hp => ?_)
      obtain ⟨out, σ1, h1, ρ1, q0, q1, q2, q3, q4, q5⟩ := hp
      cases out with
      | nrm =>
        cases q1
        exact wp_mono (Lf_ok q0 ey q2 q4 q5) fun e a2 w2 hp => PostP.trans (fun _ _ _ q => q) q3 hp
      | ret => cases q1; exact ⟨.ret, σ1, h1, ρ1, q0, rfl, q2, q3, q4, q5⟩
      | ext id => cases q1; exact ⟨.ext id, σ1, h1, ρ1, q0, rfl, q2, q3, q4, q5⟩
      | pan v => obtain ⟨v', rfl, hv⟩ := q1; exact ⟨.pan v, σ1, h1, ρ1, q0, ⟨v', rfl, hv⟩, q2, q3, q4, q5⟩
    · cases hcomp
  | cond x y z _ _ =>
    intro hcomp ds a w ρ hI hV hd
    simp only [comp] at hcomp
    split at hcomp
    · rename_i hok
      split at hcomp
      · rename_i hx hy ex ey
        cases hcomp
        have hv := eval_ev (a := a) hV hok
        rcases hs with ⟨hb, hs⟩ | ⟨hb, hs⟩
        · rw [hb] at hv; exact wp_cond_true (VR.bool_inv hv) (Lf_ok hs ex hI hV hd)
        · rw [hb] at hv; exact wp_cond_false (VR.bool_inv hv) (Lf_ok hs ey hI hV hd)
      · cases hcomp
    · cases hcomp
  | block id x _ =>
    intro hcomp ds a w ρ hI hV hd
    simp only [comp] at hcomp
    obtain ⟨hb, eb, rfl⟩ := Option.map_eq_some_iff.1 hcomp
    refine wp_block (wp_mono (Lf_ok hs eb hI hV hd) fun e a1 w1 hp => ?_)
    obtain ⟨out, σ1, h1, ρ1, q0, q1, q2, q3, q4, q5⟩ := hp
    cases out with
    | nrm => cases q1; exact ⟨.nrm, σ1, h1, ρ1, q0, rfl, q2, q3, q4, q5⟩
    | ret => cases q1; exact ⟨.ret, σ1, h1, ρ1, q0, rfl, q2, q3, q4, q5⟩
    | ext j =>
      cases q1
      have q0 : Q (if j = id then Out.nrm else Out.ext j) σ1 h1 := q0
      by_cases hid : j = id
      · rw [if_pos hid] at q0
        simp only [Exit.inBlock, if_pos hid]
        exact ⟨.nrm, σ1, h1, ρ1, q0, rfl, q2, q3, q4, q5⟩
      · rw [if_neg hid] at q0
        simp only [Exit.inBlock, if_neg hid]
        exact ⟨.ext j, σ1, h1, ρ1, q0, rfl, q2, q3, q4, q5⟩
    | pan v => obtain ⟨v', rfl, hv⟩ := q1; exact ⟨.pan v, σ1, h1, ρ1, q0, ⟨v', rfl, hv⟩, q2, q3, q4, q5⟩
  | loop x _ =>
    intro hcomp ds a w ρ hI hV hd
    simp only [comp] at hcomp
    obtain ⟨hb, eb, rfl⟩ := Option.map_eq_some_iff.1 hcomp
    exact loop_of_head (hhead x hb rfl eb ds a w ρ hI hV hd)
  | scope x ihc =>
    intro hcomp ds a w ρ hI hV hd
    refine wp_scope_straight (wp_mono (ihc hcomp ds a w ρ hI hV hd) fun e a1 w1 hp => ?_)
    obtain ⟨out, σ1, h1, ρ1, q0, q1, q⟩ := hp
    cases out with
    | nrm => cases q1; exact ⟨.nrm, σ1, h1, ρ1, q0, rfl, q⟩
    | ret => cases q1; exact ⟨.ret, σ1, h1, ρ1, q0, rfl, q⟩
    | ext id => cases q1; exact ⟨.ext id, σ1, h1, ρ1, q0, rfl, q⟩
    | pan v => obtain ⟨v', rfl, hv⟩ := q1; exact ⟨.pan v, σ1, h1, ρ1, q0, ⟨v', rfl, hv⟩, q⟩
  | region id ops draw =>
    intro hcomp ds a w ρ hI hV hd
    simp only [comp] at hcomp
    split at hcomp
    · cases hcomp
    · rename_i l hl
      split at hcomp
      · rename_i hdraw
        subst hdraw
        split at hcomp
        · rename_i hok
          cases hcomp
          refine wp_region_any hmix ?_
          refine drw_okR (callR_ok hF) hl hok (w := w.drew) hI.drew ((Ext.drew (h := h)).vrl hV) hd hs (fun σf hf a' w' ρ' k0 k1 k2 k3 k4 => ⟨.nrm, σf, hf, ρ', k0, rfl, k1, Ext.drew.trans k2, k3, k4⟩) (fun v σ1 h1 v' a' w' ρ' k0 k1 k2 k3 k4 k5 => ⟨.pan v, σ1, h1, ρ', k0, ⟨v', rfl, k3⟩, k1, Ext.drew.trans k2, k4, k5⟩)
        · cases hcomp
      · rename_i hdraw
        have : draw = false := by simpa using hdraw
        subst this
        cases hcomp
        refine wp_region ?_
        rw [List.range_eq_range']
        exact rops_okR (callR_ok hF) (ρs := ρ) (hs := h) (ws := w) (fun σf hf a' w' ρ' k0 k1 k2 k3 k4 => ⟨.nrm, σf, hf, ρ', k0, rfl, k1, k2, k3, k4⟩) (fun v σ1 h1 v' a' w' ρ' k0 k1 k2 k3 k4 k5 => ⟨.pan v, σ1, h1, ρ', k0, ⟨v', rfl, k3⟩, k1, k2, k4.weak, k5⟩) _ 0 (by omega) l (by simpa using hl) _ _ a w ρ hI (Ext.refl _ _ _) hV hd hs
theorem run_ok (hF : FOK P F) (hmix : P.follows .mixedOrders = true) {c : HC} {σ : List Value} {h : Heap} {Q : PostR} (hr : Runs F lo c σ h Q) : RunOK P lo n0 w0 c σ h Q := hr _ (step_ok hF hmix)
theorem callsR_ok (hF : FOK P F) (hmix : P.follows .mixedOrders = true) : CallROK P lo n0 w0 (CallsR F lo) :=
  fun k vs h K hc => callR_ok hF k vs h K (callR_mono (fun _ _ _ _ q => run_ok hF hmix q) (fun _ _ q => q) hc)
theorem calls_r (hF : FOK P F) (hmix : P.follows .mixedOrders = true) {k : Nat} {vs : List Value} {h : Heap} {K : Rv → Heap → Prop} (hc : CallsR F lo k vs h K) {ρ : Rho} {w : World} {args : Array Value} (hI : Inv lo n0 w0 ρ h w) (hV : VRl ρ w vs args.toList) :
    Calls P k args w fun e w' => ∃ r h' ρ', K r h' ∧ Inv lo n0 w0 ρ' h' w' ∧ Ext ρ ρ' h h' w w' ∧ EndR ρ' w' r e := (callsR_ok hF hmix k vs h K hc ρ w args hI hV).2
theorem calls_h (hF : FOK P F) (hmix : P.follows .mixedOrders = true) {n k : Nat} {vs : List Value} {h h' : Heap} {v : Value} (hc : hcall F lo n k vs h = some (v, h')) {ρ : Rho} {w : World} {args : Array Value} (hI : Inv lo n0 w0 ρ h w) (hV : VRl ρ w vs args.toList) :
    Calls P k args w fun e w' => ∃ v' ρ', e = .returned v' ∧ Inv lo n0 w0 ρ' h' w' ∧ Ext ρ ρ' h h' w w' ∧ VR ρ' w' v v' :=
  (calls_r hF hmix (hcall_R hc (K := fun r g => r = .ret v ∧ g = h') ⟨rfl, rfl⟩) hI hV).mono fun e w' ⟨r, g, ρ', q0, q1, q2, q3⟩ => by
    obtain ⟨rfl, rfl⟩ := q0
    obtain ⟨v', rfl, q4⟩ := q3
    exact ⟨v', ρ', rfl, q1, q2, q4⟩
end
end
end Go.Proofs.Ytlidnionbofkaaa.Hm
namespace Go.Proofs.Ytlidnionbofkaaa.Hm
noncomputable section
open Go Go.RowKit
set_option linter.all false
theorem get0 (b : Nat) : heap0.get b = none := by simp [Heap.get_def, heap0]
theorem Inv.empty (w : World) : Inv 0 w.heap.size w (fun _ => none) heap0 w where
  below := Below.refl _ _
  n0le := Nat.le_refl _
  lon := Nat.le_refl _
  dom := fun b r s e => by cases e
  new := fun b r s e => by cases e
  row := fun b r s cs e => by cases e
  map := fun b r s es t e => by cases e
  sep := fun b b' r s s' e => by cases e
  tip := fun b b' c cs cs' fl r s s' e => by rw [get0] at e; cases e
  clt := fun b cs c t fl e => by rw [get0] at e; cases e
  clm := fun b cs c e => by rw [get0] at e; cases e
  itr := fun b r s m t seen d e => by cases e
  its := fun b b' r s s' e => by cases e
def tells (F : Nat → Option HFn) (n k : Nat) (b : Bool) : Bool := match hcall F 0 n k [] heap0 with
  | some (.bool c, _) => c == b
  | _ => false
theorem calls_closed {P : Program} {F : Nat → Option HFn} (hF : FOK P F) (hmix : P.follows .mixedOrders = true) {n k : Nat} {b : Bool} (hc : tells F n k b = true) (w : World) :
    Calls P k #[] w fun e w' => e = .returned (.bool b) ∧ Below w.heap.size w w' := by
  unfold tells at hc
  split at hc
  · rename_i c h' he
    have : c = b := by simpa using hc
    subst this
    refine (calls_h hF hmix he (Inv.empty w) (.nil _ _)).mono fun e w' hp => ?_
    obtain ⟨v', ρ', rfl, k1, k2, k3⟩ := hp
    exact ⟨by rw [VR.bool_inv k3], k1.below⟩
  · cases hc
def primTrue : Nat → List Value → Heap → Option (Value × Heap) := fun _ vs h => if vs.isEmpty then some (.bool true, h) else none
def fnTrue : HFn := { ntmps := 0, res := [], body := .skip, prim := some primTrue }
theorem primTrue_ok {P : Program} {k : Nat} {hf : HFn} (hc : compFn P k = some hf) (haw : ∀ w : World, Calls P k #[] w fun e w' => e = .returned (.bool true) ∧ Below w.heap.size w w') : PrimOK P k primTrue := by
  intro lo n0 w0 f vs h v h' hp ρ w args hI hV
  dsimp only at hp
  split at hp
  · rename_i hk
    subst hk
    unfold primTrue at hp
    split at hp
    · rename_i he
      cases hp
      have hvs : vs = [] := by simpa using he
      subst hvs
      have hargs : args = #[] := by
        have := hV.1
        apply Array.toList_inj.1
        exact List.length_eq_zero_iff.1 (by rw [← this]; rfl)
      subst hargs
      obtain ⟨fn, c, h1, h2, h3, _⟩ := compFn_inv hc
      refine ⟨callFunc_enter h1 h2 h3 _ w, (haw w).mono fun e w' hq => ?_⟩
      obtain ⟨rfl, hb⟩ := hq
      have hsame : ∀ r, r < w.heap.size → w'.heap[r]? = w.heap[r]? := fun r hr => hb.block r hr
      have hsz : ∀ r, rowSize w r ≤ rowSize w' r := fun r => by
        unfold rowSize
        by_cases hr : r < w.heap.size
        · rw [hsame r hr]; exact Nat.le_refl _
        · rw [Array.getElem?_eq_none (Nat.le_of_not_lt hr)]; exact Nat.zero_le _
      have hn0 : n0 ≤ w.heap.size := Nat.le_trans hI.n0le hI.below.size
      exact ⟨.bool true, ρ, rfl, hI.world (hb.mono hn0) (fun b r s e => hsame r (hI.dom b r s e).2) hsz, ⟨fun _ _ e => e, hsz, Nat.le_refl _, fun _ _ e => ⟨e, rfl⟩⟩, .bool true⟩
    · cases hp
  · cases hp
end
end Go.Proofs.Ytlidnionbofkaaa.Hm
namespace Go.Proofs.Ytlidnionbofkaaa.Hm
noncomputable section
open Go Go.RowKit
set_option linter.all false
set_option linter.unusedSimpArgs false
def preRun (F : Nat → Option HFn) (lo n : Nat) : List HC → List Value → Heap → Option (Out × List Value × Heap)
  | [], σ, h => some (.nrm, σ, h)
  | c :: cs, σ, h => match run F lo n c σ h with
    | some (.nrm, σ', h') => preRun F lo n cs σ' h'
    | r => r
def deferP (F : Nat → Option HFn) (n : Nat) (d : DFn) (lo : Nat) (vs : List Value) (h : Heap) : Option (Value × Heap) :=
  match preRun F lo n d.pres (vs ++ List.replicate (d.ntmps - vs.length) undef) h with
  | some (.ret, σ, h1) => (ress h1 σ d.res).map fun l => (tupled l, h1)
  | some (.nrm, σ, h1) =>
    match run F lo n d.post (σ.set d.tmp (.func (.func d.clo) #[] ⟨d.caps.map (ev σ)⟩)) h1 with
    | some (.ext _, _, _) => none
    | some (.pan _, _, _) => none
    | some (_, σ2, h2) =>
      match run F lo n d.dbody ((d.caps.map (ev σ) ++ List.replicate (d.dn - d.caps.length) undef).set d.drec .nilIface) h2 with
      | some (.ext _, _, _) => none
      | some (.pan _, _, _) => none
      | some (_, _, h3) => (ress h3 σ2 d.res).map fun l => (tupled l, h3)
      | none => none
    | none => none
  | _ => none
section
variable {lo n0 : Nat} {w0 : World} {P : Program} {F : Nat → Option HFn}
abbrev CallFn := Nat → List Value → Heap → Option (Value × Heap)
theorem step1_len {c : CallFn} {o : HOper} {σ σ' : List Value} {h h' : Heap} (hx : step1 c lo o σ h = some (σ', h')) : σ'.length = σ.length := by
  unfold step1 at hx
  split at hx
  · split at hx
    · cases hx; exact putD_len _ _ _
    · cases hx
  · cases hx; exact putD_len _ _ _
theorem rops_len {c : CallFn} : ∀ {ops : List HOper} {σ σ' : List Value} {h h' : Heap}, rops c lo ops σ h = some (σ', h') → σ'.length = σ.length
  | [], σ, σ', h, h', hx => by cases hx; rfl
  | o :: os, σ, σ', h, h', hx => by
    simp only [rops] at hx
    split at hx
    · rename_i σ1 h1 e
      rw [rops_len hx, step1_len e]
    · cases hx
theorem drws_len {c : CallFn} {ops : List HOper} : ∀ {sched : List (Nat × List Nat)} {σ σ' : List Value} {h h' : Heap}, drws c lo ops sched σ h = some (σ', h') → σ'.length = σ.length
  | [], σ, σ', h, h', hx => by cases hx; rfl
  | (i, js) :: rest, σ, σ', h, h', hx => by
    simp only [drws, atR_eq] at hx
    split at hx
    · split at hx
      · rename_i σ1 h1 e
        split at hx
        · rw [drws_len hx, step1_len e]
        · cases hx
      · cases hx
    · cases hx
theorem run_len : ∀ (n : Nat) (c : HC) (σ : List Value) (h : Heap) (out : Out) (σ' : List Value) (h' : Heap), run F lo n c σ h = some (out, σ', h') → σ'.length = σ.length := by
  intro n
  induction n with
  | zero => intro c σ h out σ' h' hr; cases hr
  | succ n ih =>
    intro c σ h out σ' h' hr
    cases c with
    | skip => simp only [run] at hr; cases hr; rfl
    | ret => simp only [run] at hr; cases hr; rfl
    | exit id => simp only [run] at hr; cases hr; rfl
    | seq a b =>
      simp only [run] at hr
      split at hr
      · rename_i σ1 h1 e
        rw [ih _ _ _ _ _ _ hr, ih _ _ _ _ _ _ e]
      · exact ih _ _ _ _ _ _ hr
    | cond c a b =>
      simp only [run] at hr
      split at hr
      · exact ih _ _ _ _ _ _ hr
      · exact ih _ _ _ _ _ _ hr
      · cases hr
    | block id c =>
      simp only [run] at hr
      split at hr
      · rename_i id' σ1 h1 e
        split at hr
        · cases hr; exact ih _ _ _ _ _ _ e
        · cases hr; exact ih _ _ _ _ _ _ e
      · exact ih _ _ _ _ _ _ hr
    | loop c =>
      simp only [run] at hr
      split at hr
      · rename_i σ1 h1 e
        rw [ih _ _ _ _ _ _ hr, ih _ _ _ _ _ _ e]
      · exact ih _ _ _ _ _ _ hr
    | rgn ops =>
      simp only [run] at hr
      obtain ⟨p, hp, he⟩ := Option.map_eq_some_iff.1 hr
      cases he
      exact rops_len (c := hcall F lo n) hp
    | drw ops sched =>
      simp only [run] at hr
      obtain ⟨p, hp, he⟩ := Option.map_eq_some_iff.1 hr
      cases he
      exact drws_len (c := hcall F lo n) hp
theorem preRun_len {n : Nat} : ∀ {cs : List HC} {σ : List Value} {h : Heap} {out : Out} {σ' : List Value} {h' : Heap}, preRun F lo n cs σ h = some (out, σ', h') → σ'.length = σ.length
  | [], σ, h, out, σ', h', hr => by simp only [preRun] at hr; cases hr; rfl
  | c :: cs, σ, h, out, σ', h', hr => by
    simp only [preRun] at hr
    split at hr
    · rename_i σ1 h1 e
      rw [preRun_len hr, run_len _ _ _ _ _ _ _ e]
    · exact run_len _ _ _ _ _ _ _ hr
theorem preR_of {n : Nat} : ∀ {cs : List HC} {σ : List Value} {h : Heap} {out : Out} {σ' : List Value} {h' : Heap}, preRun F lo n cs σ h = some (out, σ', h') → ∀ {Q : PostR}, Q out σ' h' → preR (Runs F lo) cs σ h Q
  | [], σ, h, out, σ', h', hr, Q, hq => by simp only [preRun] at hr; cases hr; exact hq
  | c :: cs, σ, h, out, σ', h', hr, Q, hq => by
    simp only [preRun] at hr
    split at hr
    · rename_i σ1 h1 e
      exact Lf_runs (run_R _ _ _ _ _ _ _ e _ (preR_of hr hq))
    · rename_i hne
      refine Lf_runs (run_R _ _ _ _ _ _ _ hr _ ?_)
      cases out with
      | nrm => exact absurd hr (hne _ _)
      | ret => exact hq
      | ext id => exact hq
      | pan v => exact hq
theorem deferS_of {n : Nat} {d : DFn} (hcell : (d.res.all fun r => r.2.isSome) = true) (htn : d.tmp < d.ntmps) {vs : List Value} {h h' : Heap} {v : Value} (hp : deferP F n d lo vs h = some (v, h')) {K : Rv → Heap → Prop} (hk : K (.ret v) h') : deferR (Runs F lo) d vs h K := by
  refine ⟨hcell, ?_⟩
  unfold deferP at hp
  split at hp
  · rename_i σ h1 hpre
    refine preR_of hpre ?_
    obtain ⟨l, hl, e⟩ := Option.map_eq_some_iff.1 hp
    cases e
    exact ⟨l, hl, hk⟩
  · rename_i σ h1 hpre
    refine preR_of hpre ⟨?_, ?_⟩
    · have := preRun_len hpre
      rw [List.length_append, List.length_replicate] at this
      omega
    · split at hp
      · cases hp
      · cases hp
      · rename_i out σ2 h2 hn1 hn2 hpost
        refine Lf_runs (run_R _ _ _ _ _ _ _ hpost _ ?_)
        have key : Lf (Runs F lo) d.dbody (dslots d σ .nilIface) h2 (finR d σ2 K) := by
          split at hp
          · cases hp
          · cases hp
          · rename_i out3 σ3 h3 hn3 hn4 hd3
            obtain ⟨l, hl, e⟩ := Option.map_eq_some_iff.1 hp
            cases e
            refine Lf_runs (run_R _ _ _ _ _ _ _ hd3 _ ?_)
            cases out3 with
            | nrm => exact ⟨l, hl, hk⟩
            | ret => exact ⟨l, hl, hk⟩
            | ext id => exact absurd rfl (hn3 id)
            | pan v => exact absurd rfl (hn4 v)
          · cases hp
        cases out with
        | nrm => exact key
        | ret => exact key
        | ext id => exact absurd rfl (hn1 id)
        | pan v => exact absurd rfl (hn2 v)
      · cases hp
  · cases hp
theorem compD_tmp {k : Nat} {d : DFn} (h : compD P k = some d) : d.tmp < d.ntmps := by
  obtain ⟨fn, ps, id, oA, oB, b, first, caps, dargs, ats, h1, h2, h3, hA, hAd, hAg, hB, hBd, hBg, ht, _, _, _, _, _, _, _, _, e6⟩ := compD_inv h
  rw [e6]; exact ht
theorem deferP_ok (hF : FOK P F) (hmix : P.follows .mixedOrders = true) {n k : Nat} {d : DFn} (hc : compD P k = some d) (hcell : (d.res.all fun r => r.2.isSome) = true) : PrimOK P k (deferP F n d) := by
  intro lo n0 w0 f vs h v h' hp ρ w args hI hV
  dsimp only at hp
  by_cases hk : f = k
  case neg => rw [if_neg hk] at hp; cases hp
  rw [if_pos hk] at hp
  subst hk
  obtain ⟨k1, k2⟩ := defer_ok (lo := lo) (n0 := n0) (w0 := w0) hc f vs h (fun r g => r = .ret v ∧ g = h') ⟨rfl, deferR_mono (fun _ _ _ _ q => run_ok hF hmix q) (fun _ _ q => q) (deferS_of hcell (compD_tmp hc) hp ⟨rfl, rfl⟩)⟩ ρ w args hI hV
  refine ⟨k1, k2.mono fun e w' ⟨r, g, ρ', q0, q1, q2, q3⟩ => ?_⟩
  obtain ⟨rfl, rfl⟩ := q0
  obtain ⟨v', rfl, q4⟩ := q3
  exact ⟨v', ρ', rfl, q1, q2, q4⟩
end
end
end Go.Proofs.Ytlidnionbofkaaa.Hm
namespace Go.Proofs.Ytlidnionbofkaaa.Hm
noncomputable section
open Go Go.RowKit
set_option linter.all false
set_option linter.unusedSimpArgs false
inductive Tri where
  | leaf
  | node (v : Value) (l r : Tri)
def Tri.get (T : Tri) : Nat → Value :=
  Tri.rec (motive := fun _ => Nat → Value) (fun _ => undef) (fun v _ _ il ir n => Nat.rec v (fun m _ => cond (Nat.beq (m % 2) 0) (il (m / 2)) (ir (m / 2))) n) T
def Tri.set (T : Tri) : Nat → Value → Tri :=
  Tri.rec (motive := fun _ => Nat → Value → Tri) (fun _ _ => .leaf) (fun v l r il ir n x => Nat.rec (.node x l r) (fun m _ => cond (Nat.beq (m % 2) 0) (.node v (il (m / 2) x) r) (.node v l (ir (m / 2) x))) n) T
def Tri.new (d : Nat) : Tri := Nat.rec .leaf (fun _ t => .node undef t t) d
def Tri.has : Tri → Nat → Prop
  | .leaf, _ => False
  | .node _ _ _, 0 => True
  | .node _ l r, m + 1 => if m % 2 = 0 then l.has (m / 2) else r.has (m / 2)
theorem Tri.get_succ (v : Value) (l r : Tri) (m : Nat) : (Tri.node v l r).get (m + 1) = if m % 2 = 0 then l.get (m / 2) else r.get (m / 2) := by
  show cond (Nat.beq (m % 2) 0) (l.get (m / 2)) (r.get (m / 2)) = _
  by_cases h : m % 2 = 0
  · rw [h]; rfl
  · rw [if_neg h]
    have : Nat.beq (m % 2) 0 = false := by
      cases e : Nat.beq (m % 2) 0 with
      | false => rfl
      | true => exact absurd (Nat.eq_of_beq_eq_true e) h
    rw [this]; rfl
theorem Tri.set_succ (v x : Value) (l r : Tri) (m : Nat) : (Tri.node v l r).set (m + 1) x = if m % 2 = 0 then .node v (l.set (m / 2) x) r else .node v l (r.set (m / 2) x) := by
  show cond (Nat.beq (m % 2) 0) (Tri.node v (l.set (m / 2) x) r) (Tri.node v l (r.set (m / 2) x)) = _
  by_cases h : m % 2 = 0
  · rw [h]; rfl
  · rw [if_neg h]
    have : Nat.beq (m % 2) 0 = false := by
      cases e : Nat.beq (m % 2) 0 with
      | false => rfl
      | true => exact absurd (Nat.eq_of_beq_eq_true e) h
    rw [this]; rfl
theorem Tri.get_set (x : Value) : ∀ (T : Tri) (n i : Nat), T.has n → (T.set n x).get i = if i = n then x else T.get i
  | .leaf, _, _, h => h.elim
  | .node v l r, 0, 0, _ => rfl
  | .node v l r, 0, i + 1, _ => by rw [if_neg (by omega)]; rfl
  | .node v l r, m + 1, 0, h => by
    rw [if_neg (show ¬ (0 = m + 1) by omega), Tri.set_succ]
    split <;> rfl
  | .node v l r, m + 1, i + 1, h => by
    rw [Tri.set_succ]
    simp only [Tri.has] at h
    by_cases hm : m % 2 = 0
    · rw [if_pos hm] at h ⊢
      rw [Tri.get_succ, Tri.get_succ]
      by_cases hi : i % 2 = 0
      · rw [if_pos hi, if_pos hi, Tri.get_set x l (m / 2) (i / 2) h]
        by_cases e : i = m
        · subst e; simp
        · rw [if_neg (by omega), if_neg (by omega)]
      · rw [if_neg hi, if_neg hi, if_neg (by omega)]
    · rw [if_neg hm] at h ⊢
      rw [Tri.get_succ, Tri.get_succ]
      by_cases hi : i % 2 = 0
      · rw [if_pos hi, if_pos hi, if_neg (by omega)]
      · rw [if_neg hi, if_neg hi, Tri.get_set x r (m / 2) (i / 2) h]
        by_cases e : i = m
        · subst e; simp
        · rw [if_neg (by omega), if_neg (by omega)]
theorem Tri.has_set (x : Value) : ∀ (T : Tri) (n i : Nat), T.has i → (T.set n x).has i
  | .leaf, _, _, h => h
  | .node v l r, 0, 0, _ => trivial
  | .node v l r, 0, i + 1, h => h
  | .node v l r, m + 1, 0, h => by rw [Tri.set_succ]; split <;> trivial
  | .node v l r, m + 1, i + 1, h => by
    rw [Tri.set_succ]
    simp only [Tri.has] at h
    by_cases hm : m % 2 = 0
    · rw [if_pos hm]
      simp only [Tri.has]
      by_cases hi : i % 2 = 0
      · rw [if_pos hi] at h ⊢; exact Tri.has_set x l _ _ h
      · rw [if_neg hi] at h ⊢; exact h
    · rw [if_neg hm]
      simp only [Tri.has]
      by_cases hi : i % 2 = 0
      · rw [if_pos hi] at h ⊢; exact h
      · rw [if_neg hi] at h ⊢; exact Tri.has_set x r _ _ h
theorem Tri.new_get : ∀ (d i : Nat), (Tri.new d).get i = undef
  | 0, _ => rfl
  | d + 1, 0 => rfl
  | d + 1, i + 1 => by
    show (Tri.node undef (Tri.new d) (Tri.new d)).get (i + 1) = undef
    rw [Tri.get_succ]
    split <;> exact Tri.new_get d _
theorem Tri.new_has : ∀ (d i : Nat), i < d → (Tri.new d).has i
  | d + 1, 0, _ => trivial
  | d + 1, i + 1, h => by
    show (Tri.node undef (Tri.new d) (Tri.new d)).has (i + 1)
    simp only [Tri.has]
    split <;> exact Tri.new_has d _ (by omega)
structure RelT (N : Nat) (T : Tri) (σ : List Value) : Prop where
  len : σ.length = N
  get : ∀ t, T.get t = σ.getD t undef
  has : ∀ t, t < N → T.has t
def evT (T : Tri) : Operand → Value
  | .tmp t => T.get t
  | .const v => v
  | .func f => .func (.func f) #[] #[]
  | .global _ => undef
theorem RelT.ev {N : Nat} {T : Tri} {σ : List Value} (k : RelT N T σ) : evT T = Hm.ev σ := by
  funext x
  cases x with
  | tmp t => rw [ev_tmp]; exact k.get t
  | const v => rfl
  | func f => rfl
  | global g => rfl
def putT (N : Nat) (T : Tri) (d : Option Nat) (v : Value) : Tri :=
  match d with
  | some t => if t < N then T.set t v else T
  | none => T
theorem RelT.put {N : Nat} {T : Tri} {σ : List Value} (k : RelT N T σ) (d : Option Nat) (v : Value) : RelT N (putT N T d v) (putD σ d v) := by
  cases d with
  | none => exact k
  | some t =>
    simp only [putT, putD, setS_eq]
    by_cases h : t < N
    · rw [if_pos h]
      refine ⟨by rw [List.length_set]; exact k.len, fun i => ?_, fun i hi => Tri.has_set v T t i (k.has i hi)⟩
      rw [Tri.get_set v T t i (k.has t h)]
      by_cases e : i = t
      · subst e; rw [if_pos rfl, List.getD_eq_getElem?_getD, List.getElem?_set_self (by rw [k.len]; exact h)]; rfl
      · rw [if_neg e, k.get i, List.getD_eq_getElem?_getD, List.getD_eq_getElem?_getD, List.getElem?_set_ne (fun z => e z.symm)]
    · rw [if_neg h]
      rw [List.set_eq_of_length_le (by rw [k.len]; omega)]
      exact k
def wantedT (T : Tri) : Option (Nat × Bool) → Bool
  | none => true
  | some (t, b) => match T.get t with
    | .bool c => c == b
    | _ => false
theorem RelT.wanted {N : Nat} {T : Tri} {σ : List Value} (k : RelT N T σ) (g : Option (Nat × Bool)) : wantedT T g = wantedH σ g := by
  cases g with
  | none => rfl
  | some p =>
    obtain ⟨t, b⟩ := p
    simp only [wantedT, wantedH, atR_eq, k.get t, List.getD_eq_getElem?_getD]
    cases σ[t]? with
    | none => rfl
    | some v => cases v <;> rfl
abbrev CallT := Nat → List Value → Heap → Option (Value × Heap)
def xoperT (call : CallT) (lo : Nat) (e : Operand → Value) (h : Heap) : HOp → Option (Value × Heap)
  | .call f args => match (match e f with
      | .func (.func k) first captured => some (k, (first.toList ++ args.map e) ++ captured.toList)
      | _ => none) with
    | some (k, vs) => call k vs h
    | none => none
  | o => xopE lo e h o
theorem xoperT_eq (call : CallT) (lo : Nat) (σ : List Value) (h : Heap) (op : HOp) : xoperT call lo (ev σ) h op = xoper call lo σ h op := by
  cases op <;> rfl
def stepT (call : CallT) (lo N : Nat) (o : HOper) (T : Tri) (h : Heap) : Option (Tri × Heap) :=
  if wantedT T o.guard then
    match xoperT call lo (evT T) h o.op with
    | some (v, h') => some (putT N T o.dst v, h')
    | none => none
  else some (putT N T o.dst undef, h)
def ropsT (call : CallT) (lo N : Nat) : List HOper → Tri → Heap → Option (Tri × Heap)
  | [], T, h => some (T, h)
  | o :: os, T, h => match stepT call lo N o T h with
    | some (T', h') => ropsT call lo N os T' h'
    | none => none
def recheckT (lo : Nat) (ops : List HOper) (T : Tri) (h : Heap) : List Nat → Bool
  | [] => true
  | j :: js => (match atR ops j with
    | some o => if wantedT T o.guard then
        (match o.dst, xopE lo (evT T) h o.op with
        | some d, some (v, _) => sameV (T.get d) v
        | _, _ => false)
      else true
    | none => false) && recheckT lo ops T h js
def drwsT (call : CallT) (lo N : Nat) (ops : List HOper) : List (Nat × List Nat) → Tri → Heap → Option (Tri × Heap)
  | [], T, h => some (T, h)
  | (i, js) :: rest, T, h => match atR ops i with
    | some o => match stepT call lo N o T h with
      | some (T', h') => if recheckT lo ops T' h' js then drwsT call lo N ops rest T' h' else none
      | none => none
    | none => none
def resT (h : Heap) (T : Tri) (r : Nat × Option (Option Nat)) : Option Value :=
  match r.2 with
  | none => some (T.get r.1)
  | some agg => match T.get r.1 with
    | .pointer (some ⟨b, o, none⟩) => match agg with
      | none => h.rd1 b o
      | some n => (h.rd b o n).map fun cs => .agg ⟨cs⟩
    | _ => none
def ressT (h : Heap) (T : Tri) : List (Nat × Option (Option Nat)) → Option (List Value)
  | [] => some []
  | r :: rs => match resT h T r, ressT h T rs with
    | some v, some vs => some (v :: vs)
    | _, _ => none
def fillT : List Value → Nat → Tri → Tri
  | [], _, T => T
  | v :: vs, i, T => fillT vs (i + 1) (T.set i v)
def slotsN (vs : List Value) (n : Nat) : Nat := vs.length + (n - vs.length)
def slotsT (vs : List Value) (n : Nat) : Tri := fillT vs 0 (Tri.new (slotsN vs n))
def runT (F : Nat → Option HFn) (lo : Nat) : Nat → Nat → HC → Tri → Heap → Option (Out × Tri × Heap)
  | 0, _, _, _, _ => none
  | n + 1, N, c, T, h =>
    match c with
    | .skip => some (.nrm, T, h)
    | .ret => some (.ret, T, h)
    | .exit id => some (.ext id, T, h)
    | .seq a b => match runT F lo n N a T h with
      | some (.nrm, T', h') => runT F lo n N b T' h'
      | r => r
    | .cond c a b => match evT T c with
      | .bool true => runT F lo n N a T h
      | .bool false => runT F lo n N b T h
      | _ => none
    | .block id c => match runT F lo n N c T h with
      | some (.ext id', T', h') => if id' = id then some (.nrm, T', h') else some (.ext id', T', h')
      | r => r
    | .loop c => match runT F lo n N c T h with
      | some (.nrm, T', h') => runT F lo n N (.loop c) T' h'
      | r => r
    | .rgn ops => (ropsT (fun f vs h => match F f with
        | none => none
        | some fn =>
          match fn.sem with
          | some _ => none
          | none =>
          match fn.prim with
          | some p => p lo vs h
          | none =>
            match runT F lo n (slotsN vs fn.ntmps) fn.body (slotsT vs fn.ntmps) h with
            | some (.ext _, _, _) => none
            | some (.pan _, _, _) => none
            | some (_, T', h') => (ressT h' T' fn.res).map fun l => (tupled l, h')
            | none => none) lo N ops T h).map fun p => (.nrm, p.1, p.2)
    | .drw ops sched => (drwsT (fun f vs h => match F f with
        | none => none
        | some fn =>
          match fn.sem with
          | some _ => none
          | none =>
          match fn.prim with
          | some p => p lo vs h
          | none =>
            match runT F lo n (slotsN vs fn.ntmps) fn.body (slotsT vs fn.ntmps) h with
            | some (.ext _, _, _) => none
            | some (.pan _, _, _) => none
            | some (_, T', h') => (ressT h' T' fn.res).map fun l => (tupled l, h')
            | none => none) lo N ops sched T h).map fun p => (.nrm, p.1, p.2)
def hcallT (F : Nat → Option HFn) (lo n : Nat) (f : Nat) (vs : List Value) (h : Heap) : Option (Value × Heap) :=
  match F f with
  | none => none
  | some fn =>
    match fn.sem with
    | some _ => none
    | none =>
    match fn.prim with
    | some p => p lo vs h
    | none =>
      match runT F lo n (slotsN vs fn.ntmps) fn.body (slotsT vs fn.ntmps) h with
      | some (.ext _, _, _) => none
      | some (.pan _, _, _) => none
      | some (_, T', h') => (ressT h' T' fn.res).map fun l => (tupled l, h')
      | none => none
def LeC (a b : CallT) : Prop := ∀ k vs h r, a k vs h = some r → b k vs h = some r
section
variable {F : Nat → Option HFn} {lo N : Nat} {a b : CallT}
theorem xoperT_le (k : LeC a b) {σ : List Value} {h : Heap} {op : HOp} {r : Value × Heap} (e : xoper a lo σ h op = some r) : xoper b lo σ h op = some r := by
  cases op <;> first
    | exact e
    | (simp only [xoper] at e ⊢
       split at e
       · exact k _ _ _ _ e
       · cases e)
theorem stepT_ok (k : LeC a b) {o : HOper} {T T' : Tri} {σ : List Value} {h h' : Heap} (hr : RelT N T σ) (e : stepT a lo N o T h = some (T', h')) : ∃ σ', step1 b lo o σ h = some (σ', h') ∧ RelT N T' σ' := by
  unfold stepT at e
  unfold step1
  rw [← hr.wanted]
  split at e
  · rename_i hw
    rw [if_pos hw]
    rw [hr.ev, xoperT_eq] at e
    split at e
    · rename_i v h1 hx
      cases e
      rw [xoperT_le k hx]
      exact ⟨_, rfl, hr.put _ _⟩
    · cases e
  · rename_i hw
    rw [if_neg hw]
    cases e
    exact ⟨_, rfl, hr.put _ _⟩
theorem ropsT_ok (k : LeC a b) : ∀ {ops : List HOper} {T T' : Tri} {σ : List Value} {h h' : Heap}, RelT N T σ → ropsT a lo N ops T h = some (T', h') → ∃ σ', rops b lo ops σ h = some (σ', h') ∧ RelT N T' σ'
  | [], T, T', σ, h, h', hr, e => by cases e; exact ⟨σ, rfl, hr⟩
  | o :: os, T, T', σ, h, h', hr, e => by
    simp only [ropsT] at e
    split at e
    · rename_i T1 h1 hs
      obtain ⟨σ1, e1, r1⟩ := stepT_ok k hr hs
      obtain ⟨σ2, e2, r2⟩ := ropsT_ok k r1 e
      exact ⟨σ2, by simp only [rops, e1]; exact e2, r2⟩
    · cases e
theorem recheckT_ok {ops : List HOper} {T : Tri} {σ : List Value} {h : Heap} (hr : RelT N T σ) : ∀ {js : List Nat}, recheckT lo ops T h js = recheck lo ops σ h js
  | [] => rfl
  | j :: js => by
    simp only [recheckT, recheck, recheckT_ok hr (js := js), hr.wanted, hr.ev, hr.get]
    rfl
theorem drwsT_ok (k : LeC a b) {ops : List HOper} : ∀ {sched : List (Nat × List Nat)} {T T' : Tri} {σ : List Value} {h h' : Heap}, RelT N T σ → drwsT a lo N ops sched T h = some (T', h') → ∃ σ', drws b lo ops sched σ h = some (σ', h') ∧ RelT N T' σ'
  | [], T, T', σ, h, h', hr, e => by cases e; exact ⟨σ, rfl, hr⟩
  | (i, js) :: rest, T, T', σ, h, h', hr, e => by
    simp only [drwsT] at e
    simp only [drws]
    split at e
    · rename_i o ho
      rw [ho]
      split at e
      · rename_i T1 h1 hs
        obtain ⟨σ1, e1, r1⟩ := stepT_ok k hr hs
        rw [recheckT_ok r1] at e
        split at e
        · rename_i hc
          obtain ⟨σ2, e2, r2⟩ := drwsT_ok k r1 e
          exact ⟨σ2, by simp only [e1, hc, if_true]; exact e2, r2⟩
        · cases e
      · cases e
    · cases e
theorem ressT_eq {T : Tri} {σ : List Value} {h : Heap} (hr : RelT N T σ) : ∀ {rs : List (Nat × Option (Option Nat))}, ressT h T rs = ress h σ rs
  | [] => rfl
  | r :: rs => by
    have e : resT h T r = resOf h σ r := by unfold resT resOf; simp only [hr.get]; rfl
    simp only [ressT, ress, e, ressT_eq hr (rs := rs)]
    cases resOf h σ r <;> cases ress h σ rs <;> rfl
theorem fillT_ok : ∀ {vs : List Value} {i : Nat} {T : Tri}, (∀ t, t < i + vs.length → T.has t) → (∀ t, t < i + vs.length → (fillT vs i T).has t) ∧ (∀ t, T.has t → (fillT vs i T).has t) ∧ ∀ t, (fillT vs i T).get t = if i ≤ t ∧ t < i + vs.length then vs.getD (t - i) undef else T.get t
  | [], i, T, hh => ⟨hh, fun _ h => h, fun t => by rw [if_neg (by simp <;> omega)]; rfl⟩
  | v :: vs, i, T, hh => by
    obtain ⟨k1, k2, k3⟩ := fillT_ok (vs := vs) (i := i + 1) (T := T.set i v) fun t ht => Tri.has_set v T i t (hh t (by simp; omega))
    refine ⟨fun t ht => k1 t (by simp at ht; omega), fun t h => k2 t (Tri.has_set v T i t h), fun t => ?_⟩
    show (fillT vs (i + 1) (T.set i v)).get t = _
    rw [k3]
    by_cases h1 : i + 1 ≤ t ∧ t < i + 1 + vs.length
    · rw [if_pos h1, if_pos (by simp; omega), show t - i = (t - (i + 1)) + 1 by omega]; rfl
    · rw [if_neg h1, Tri.get_set v T i t (hh i (by simp))]
      by_cases h2 : t = i
      · subst h2; rw [if_pos rfl, if_pos (by simp), Nat.sub_self]; try rfl
      · rw [if_neg h2, if_neg (by simp; omega)]
theorem slots_rel (vs : List Value) (n : Nat) : RelT (slotsN vs n) (slotsT vs n) (vs ++ List.replicate (n - vs.length) undef) := by
  obtain ⟨k1, k2, k3⟩ := fillT_ok (vs := vs) (i := 0) (T := Tri.new (slotsN vs n)) fun t ht => Tri.new_has _ _ (by unfold slotsN; omega)
  refine ⟨by rw [List.length_append, List.length_replicate]; rfl, fun t => ?_, fun t ht => k2 t (Tri.new_has _ _ ht)⟩
  show (fillT vs 0 _).get t = _
  rw [k3, Tri.new_get]
  by_cases h : t < vs.length
  · rw [if_pos (by omega), Nat.sub_zero, List.getD_eq_getElem?_getD, List.getD_eq_getElem?_getD, List.getElem?_append_left h]
  · rw [if_neg (by omega)]
    have e : (vs ++ List.replicate (n - vs.length) undef).getD t undef = undef := by
      rw [List.getD_eq_getElem?_getD, List.getElem?_append_right (by omega), List.getElem?_replicate]
      split <;> rfl
    exact e.symm
theorem hcallT_of {n : Nat} (hr : ∀ (N : Nat) (c : HC) (T : Tri) (σ : List Value) (h : Heap) (out : Out) (T' : Tri) (h' : Heap), RelT N T σ → runT F lo n N c T h = some (out, T', h') → ∃ σ', run F lo n c σ h = some (out, σ', h') ∧ RelT N T' σ') : LeC (hcallT F lo n) (hcall F lo n) := by
  intro f vs h r e
  unfold hcallT at e
  unfold hcall
  split at e
  · cases e
  · rename_i fn hF
    rw [hF]
    simp only
    split at e
    · cases e
    rename_i hs
    rw [hs]
    simp only
    split at e
    · rename_i p hp; rw [hp]; exact e
    · rename_i hp
      rw [hp]
      simp only
      split at e
      · cases e
      · cases e
      · rename_i out T' h1 hne hnp hrun
        obtain ⟨σ', e1, r1⟩ := hr _ _ _ _ _ _ _ _ (slots_rel vs fn.ntmps) hrun
        rw [e1]
        cases out with
        | ext id => exact absurd rfl (hne id)
        | pan v => exact absurd rfl (hnp v)
        | nrm => simp only; rw [← ressT_eq r1]; exact e
        | ret => simp only; rw [← ressT_eq r1]; exact e
      · cases e
theorem runT_ok : ∀ (n N : Nat) (c : HC) (T : Tri) (σ : List Value) (h : Heap) (out : Out) (T' : Tri) (h' : Heap), RelT N T σ → runT F lo n N c T h = some (out, T', h') → ∃ σ', run F lo n c σ h = some (out, σ', h') ∧ RelT N T' σ' := by
  intro n
  induction n with
  | zero => intro N c T σ h out T' h' hr e; cases e
  | succ n ih =>
    intro N c T σ h out T' h' hr e
    have hc : LeC (hcallT F lo n) (hcall F lo n) := hcallT_of ih
    cases c with
    | skip => simp only [runT] at e; cases e; exact ⟨σ, rfl, hr⟩
    | ret => simp only [runT] at e; cases e; exact ⟨σ, rfl, hr⟩
    | exit id => simp only [runT] at e; cases e; exact ⟨σ, rfl, hr⟩
    | seq x y =>
      simp only [runT] at e
      split at e
      · rename_i T1 h1 e1
        obtain ⟨σ1, q1, r1⟩ := ih _ _ _ _ _ _ _ _ hr e1
        obtain ⟨σ2, q2, r2⟩ := ih _ _ _ _ _ _ _ _ r1 e
        exact ⟨σ2, by simp only [run, q1]; exact q2, r2⟩
      · rename_i hne
        obtain ⟨σ1, q1, r1⟩ := ih _ _ _ _ _ _ _ _ hr e
        refine ⟨σ1, ?_, r1⟩
        simp only [run, q1]
        cases out with
        | nrm => exact absurd e (hne _ _)
        | ret => rfl
        | ext id => rfl
        | pan v => rfl
    | cond c x y =>
      simp only [runT, hr.ev] at e
      split at e
      · rename_i hb
        obtain ⟨σ1, q1, r1⟩ := ih _ _ _ _ _ _ _ _ hr e
        exact ⟨σ1, by simp only [run, hb]; exact q1, r1⟩
      · rename_i hb
        obtain ⟨σ1, q1, r1⟩ := ih _ _ _ _ _ _ _ _ hr e
        exact ⟨σ1, by simp only [run, hb]; exact q1, r1⟩
      · cases e
    | block id c =>
      simp only [runT] at e
      split at e
      · rename_i id' T1 h1 e1
        obtain ⟨σ1, q1, r1⟩ := ih _ _ _ _ _ _ _ _ hr e1
        by_cases hi : id' = id
        · rw [if_pos hi] at e; cases e
          exact ⟨σ1, by simp only [run, q1, if_pos hi], r1⟩
        · rw [if_neg hi] at e; cases e
          exact ⟨σ1, by simp only [run, q1, if_neg hi], r1⟩
      · rename_i hne
        obtain ⟨σ1, q1, r1⟩ := ih _ _ _ _ _ _ _ _ hr e
        refine ⟨σ1, ?_, r1⟩
        simp only [run, q1]
        cases out with
        | nrm => rfl
        | ret => rfl
        | ext id' => exact absurd e (hne _ _ _)
        | pan v => rfl
    | loop c =>
      simp only [runT] at e
      split at e
      · rename_i T1 h1 e1
        obtain ⟨σ1, q1, r1⟩ := ih _ _ _ _ _ _ _ _ hr e1
        obtain ⟨σ2, q2, r2⟩ := ih _ _ _ _ _ _ _ _ r1 e
        exact ⟨σ2, by simp only [run, q1]; exact q2, r2⟩
      · rename_i hne
        obtain ⟨σ1, q1, r1⟩ := ih _ _ _ _ _ _ _ _ hr e
        refine ⟨σ1, ?_, r1⟩
        simp only [run, q1]
        cases out with
        | nrm => exact absurd e (hne _ _)
        | ret => rfl
        | ext id => rfl
        | pan v => rfl
    | rgn ops =>
      simp only [runT] at e
      obtain ⟨p, hp, he⟩ := Option.map_eq_some_iff.1 e
      cases he
      obtain ⟨σ1, q1, r1⟩ := ropsT_ok (a := hcallT F lo n) hc hr hp
      refine ⟨σ1, ?_, r1⟩
      show (rops (hcall F lo n) lo ops σ h).map _ = _
      rw [q1]; rfl
    | drw ops sched =>
      simp only [runT] at e
      obtain ⟨p, hp, he⟩ := Option.map_eq_some_iff.1 e
      cases he
      obtain ⟨σ1, q1, r1⟩ := drwsT_ok (a := hcallT F lo n) hc hr hp
      refine ⟨σ1, ?_, r1⟩
      show (drws (hcall F lo n) lo ops sched σ h).map _ = _
      rw [q1]; rfl
theorem hcallT_ok {n : Nat} : LeC (hcallT F lo n) (hcall F lo n) := hcallT_of (runT_ok n)
end
def preRunT (F : Nat → Option HFn) (lo n N : Nat) : List HC → Tri → Heap → Option (Out × Tri × Heap)
  | [], T, h => some (.nrm, T, h)
  | c :: cs, T, h => match runT F lo n N c T h with
    | some (.nrm, T', h') => preRunT F lo n N cs T' h'
    | r => r
def deferT (F : Nat → Option HFn) (n : Nat) (d : DFn) (lo : Nat) (vs : List Value) (h : Heap) : Option (Value × Heap) :=
  match preRunT F lo n (slotsN vs d.ntmps) d.pres (slotsT vs d.ntmps) h with
  | some (.ret, T, h1) => (ressT h1 T d.res).map fun l => (tupled l, h1)
  | some (.nrm, T, h1) =>
    match runT F lo n (slotsN vs d.ntmps) d.post (putT (slotsN vs d.ntmps) T (some d.tmp) (.func (.func d.clo) #[] ⟨d.caps.map (evT T)⟩)) h1 with
    | some (.ext _, _, _) => none
    | some (.pan _, _, _) => none
    | some (_, T2, h2) =>
      match runT F lo n (slotsN (d.caps.map (evT T)) d.dn) d.dbody (putT (slotsN (d.caps.map (evT T)) d.dn) (slotsT (d.caps.map (evT T)) d.dn) (some d.drec) .nilIface) h2 with
      | some (.ext _, _, _) => none
      | some (.pan _, _, _) => none
      | some (_, _, h3) => (ressT h3 T2 d.res).map fun l => (tupled l, h3)
      | none => none
    | none => none
  | _ => none
section
variable {F : Nat → Option HFn} {lo : Nat}
theorem preRunT_ok {n N : Nat} : ∀ {cs : List HC} {T T' : Tri} {σ : List Value} {h h' : Heap} {out : Out}, RelT N T σ → preRunT F lo n N cs T h = some (out, T', h') → ∃ σ', preRun F lo n cs σ h = some (out, σ', h') ∧ RelT N T' σ'
  | [], T, T', σ, h, h', out, hr, e => by cases e; exact ⟨σ, rfl, hr⟩
  | c :: cs, T, T', σ, h, h', out, hr, e => by
    simp only [preRunT] at e
    split at e
    · rename_i T1 h1 e1
      obtain ⟨σ1, q1, r1⟩ := runT_ok _ _ _ _ _ _ _ _ _ hr e1
      obtain ⟨σ2, q2, r2⟩ := preRunT_ok r1 e
      exact ⟨σ2, by simp only [preRun, q1]; exact q2, r2⟩
    · rename_i hne
      obtain ⟨σ1, q1, r1⟩ := runT_ok _ _ _ _ _ _ _ _ _ hr e
      refine ⟨σ1, ?_, r1⟩
      simp only [preRun, q1]
      cases out with
      | nrm => exact absurd e (hne _ _)
      | ret => rfl
      | ext id => rfl
      | pan v => rfl
theorem deferT_le {n : Nat} {d : DFn} {vs : List Value} {h : Heap} {r : Value × Heap} (e : deferT F n d lo vs h = some r) : deferP F n d lo vs h = some r := by
  unfold deferT at e
  unfold deferP
  split at e
  · rename_i T h1 hp
    obtain ⟨σ1, q1, r1⟩ := preRunT_ok (slots_rel vs d.ntmps) hp
    rw [q1]
    simp only
    rw [← ressT_eq r1]; exact e
  · rename_i T h1 hp
    obtain ⟨σ1, q1, r1⟩ := preRunT_ok (slots_rel vs d.ntmps) hp
    rw [q1]
    simp only
    rw [r1.ev] at e
    have rp := r1.put (some d.tmp) (.func (.func d.clo) #[] ⟨d.caps.map (ev σ1)⟩)
    simp only [putD, setS_eq] at rp
    split at e
    · cases e
    · cases e
    · rename_i out T2 h2 hne hnp hrun
      obtain ⟨σ2, q2, r2⟩ := runT_ok _ _ _ _ _ _ _ _ _ rp hrun
      have rq := (slots_rel (d.caps.map (ev σ1)) d.dn).put (some d.drec) .nilIface
      simp only [putD, setS_eq, List.length_map] at rq
      split at e
      · cases e
      · cases e
      · rename_i out3 T3 h3 hne3 hnp3 hrun3
        obtain ⟨σ3, q3, r3⟩ := runT_ok _ _ _ _ _ _ _ _ _ rq hrun3
        rw [ressT_eq r2] at e
        rw [q2]
        cases out with
        | ext id => exact absurd rfl (hne id)
        | pan v => exact absurd rfl (hnp v)
        | nrm =>
          simp only
          rw [q3]
          cases out3 with
          | ext id => exact absurd rfl (hne3 id)
          | pan v => exact absurd rfl (hnp3 v)
          | nrm => exact e
          | ret => exact e
        | ret =>
          simp only
          rw [q3]
          cases out3 with
          | ext id => exact absurd rfl (hne3 id)
          | pan v => exact absurd rfl (hnp3 v)
          | nrm => exact e
          | ret => exact e
      · cases e
    · cases e
  · cases e
end
theorem deferT_ok {P : Program} {F : Nat → Option HFn} (hF : FOK P F) (hmix : P.follows .mixedOrders = true) {n k : Nat} {d : DFn} (hc : compD P k = some d) (hcell : (d.res.all fun r => r.2.isSome) = true) : PrimOK P k (deferT F n d) := by
  intro lo n0 w0 f vs h v h' hp ρ w args hI hV
  refine deferP_ok (n := n) hF hmix hc hcell lo n0 w0 f vs h v h' ?_ ρ w args hI hV
  dsimp only at hp ⊢
  split at hp
  · rename_i e; rw [if_pos e]; exact deferT_le hp
  · cases hp
def tellsT (F : Nat → Option HFn) (n k : Nat) (b : Bool) : Bool := match hcallT F 0 n k [] heap0 with
  | some (.bool c, _) => c == b
  | _ => false
theorem tellsT_ok {F : Nat → Option HFn} {n k : Nat} {b : Bool} (h : tellsT F n k b = true) : tells F n k b = true := by
  unfold tellsT at h
  unfold tells
  split at h
  · rename_i c h' e
    rw [hcallT_ok _ _ _ _ e]; exact h
  · cases h
end
end Go.Proofs.Ytlidnionbofkaaa.Hm
