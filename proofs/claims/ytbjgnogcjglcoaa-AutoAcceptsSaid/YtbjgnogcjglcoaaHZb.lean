/- Operations that make a block: what is made, and what is given, told apart from where it lies. -/
import Derived.Test.YtbjgnogcjglcoaaHZa
namespace Go.Proofs.Ytbjgnogcjglcoaa.Hm
open Go Go.RowKit
set_option linter.all false
set_option linter.unusedSimpArgs false
def Heap.pushB (h : Heap) (b : HB) : Heap := { h with bs := b :: h.bs, n := h.n + 1 }
/-- The block that is made, and the value by the block's number. -/
def alcOf (σ : List Value) : HOp → Option (HB × (Nat → Value))
  | .alloc z => some (.row z none, fun b => .pointer (some ⟨b, 0, none⟩))
  | .box x => (cellsV (ev σ x)).map fun cs => (.row cs none, fun b => .pointer (some ⟨b, 0, none⟩))
  | .bslice esz len z parts => (fillL (List.replicate len z).flatten (parts.map fun p => (p.1 * esz, esz, ev σ p.2))).map fun cs => (.row cs none, fun b => .slice (some ⟨b, 0, none⟩) len len)
  | .mkmap => some (.map [] 0, fun b => .map (some b))
  | .mkslice esz bytes zero l c => match ev σ l, ev σ c with
    | .int _ l, .int _ c => if 0 ≤ l ∧ l ≤ c ∧ c * bytes ≤ 2 ^ 44 then some (.row (List.replicate c.toNat zero).flatten none, fun b => .slice (some ⟨b, 0, none⟩) l.toNat c.toNat) else none
    | _, _ => none
  | _ => none
theorem xop_alc {lo : Nat} {σ : List Value} {h : Heap} {op : HOp} (hk : op.kd = .alc) : xop lo σ h op = (alcOf σ op).map fun p => (p.2 h.n, h.pushB p.1) := by
  cases op <;> (try (cases hk; done)) <;> simp only [xop, alcOf]
  · rfl
  · cases cellsV (ev σ _) <;> rfl
  · cases fillL _ _ <;> rfl
  · rfl
  · generalize ev σ _ = a
    generalize ev σ _ = b
    cases a <;> cases b <;> (try rfl)
    simp only
    split <;> rfl
section
variable {lo n0 : Nat} {w0 : World} {ρ : Rho} {h h' : Heap} {w : World} {P : Program} {σ : List Value} {e : Operand → Value} {hop : HOp}
/-- What a made block of H's and of the memory's have to do with each other. -/
def ObjR (ρ : Rho) (w : World) (b : HB) (o : Obj) : Prop :=
  (∀ cs k, b = .row cs k → k = none ∧ ∃ c t, o = .cells c t (0, 0) ∧ cs.length ≤ c.size ∧ ∀ i, i < cs.length → VR ρ w (cs.getD i undef) (c.getD i undef) ∧ cell1 (cs.getD i undef) = true) ∧
  (∀ es t, b = .map es t → es = [] ∧ t = 0 ∧ o = .map #[] 0)
theorem ObjR.row {cs : List Value} {c : Array Value} (t : TypeId) (hv : VRl ρ w cs c.toList) (h1 : ∀ x ∈ cs, cell1 x = true) : ObjR ρ w (.row cs none) (.cells c t) := by
  obtain ⟨l1, l2⟩ := hv.row h1
  exact ⟨fun cs' k e => by cases e; exact ⟨rfl, c, t, rfl, l1, l2⟩, fun es t e => by cases e⟩
theorem alc_run {b : HB} {mk : Nat → Value} (hσ : ∀ x, okOp x = true → VR ρ w (ev σ x) (e x)) (o : Oper) (hc : compOp P o.type o.op = some hop) (ha : alcOf σ hop = some (b, mk)) :
    ∃ (obj : Obj) (mkR : Nat → Value), (execOp e o).run P w = .ok (.value (mkR w.heap.size)) (w.alloc obj) ∧ ObjR ρ w b obj ∧ ∀ (ρ' : Rho) (w' : World) (c r : Nat), ρ' c = some (r, 0) → VR ρ' w' (mk c) (mkR r) := by
  obtain ⟨dst, op, type, pos, after, guard⟩ := o
  simp only at hc
  have ptr : ∀ (ρ' : Rho) (w' : World) (c r : Nat), ρ' c = some (r, 0) → VR ρ' w' (.pointer (some ⟨c, 0, none⟩)) (.pointer (some ⟨r, 0, none⟩)) := fun ρ' w' c r hr => by
    have := VR.ptr (w := w') c r 0 0 hr; simpa using this
  have slc : ∀ (len cap : Nat) (ρ' : Rho) (w' : World) (c r : Nat), ρ' c = some (r, 0) → VR ρ' w' (.slice (some ⟨c, 0, none⟩) len cap) (.slice (some ⟨r, 0, none⟩) len cap) := fun len cap ρ' w' c r hr => by
    have := VR.sle (w := w') c r 0 0 len cap hr; simpa using this
  cases op
  case alloc t =>
    simp only [compOp] at hc
    split at hc
    · rename_i z hz
      split at hc
      · rename_i hp
        cases hc; simp only [alcOf] at ha; cases ha
        obtain ⟨a, b⟩ := plainV_cells (ρ := ρ) (w := w) hp.1 (nt hp.2)
        refine ⟨.cells z.cells t, fun r => .pointer (some ⟨r, 0, none⟩), ?_, .row t a b, ptr⟩
        simp [execOp, Instr.alloc, run_zero hz, newVar, run_newRow]
      · cases hc
    · cases hc
  case box t x =>
    simp only [compOp] at hc
    split at hc
    · rename_i ho
      cases hc; simp only [alcOf] at ha
      obtain ⟨cs, hcs, e2⟩ := Option.map_eq_some_iff.1 ha
      cases e2
      obtain ⟨a, b⟩ := (hσ x ho).cells hcs
      refine ⟨.cells (e x).cells t, fun r => .pointer (some ⟨r, 0, none⟩), ?_, .row t a b, ptr⟩
      simp [execOp, Instr.box, newVar, run_newRow]
    · cases hc
  case buildSlice t len parts =>
    rw [ex_bslice]
    simp only [compOp] at hc
    split at hc
    · rename_i el hel
      split at hc
      · rename_i s z hs hz
        split at hc
        · rename_i hp
          obtain ⟨hp1, hp2, hp3, hp4, hp5, hp6⟩ := hp
          cases hc; simp only [alcOf] at ha
          obtain ⟨cs, hcs, e2⟩ := Option.map_eq_some_iff.1 ha
          cases e2
          obtain ⟨za, zb⟩ := plainV_cells (ρ := ρ) (w := w) hp1 (nt hp2)
          obtain ⟨r1, r2⟩ := zeros_row z.cells (by omega) len za zb
          rw [hp3] at r1
          have hpl : ∀ (ps : List (Nat × Operand)), okOps (ps.map (·.2)) = true → partsL (fun i => some (i * s, s)) ps = some (ps.map fun p => (p.1 * s, s, p.2)) := by
            intro ps
            induction ps with
            | nil => intro _; rfl
            | cons p ps ih =>
              intro ho
              simp only [List.map_cons, okOps, List.all_cons, Bool.and_eq_true] at ho
              obtain ⟨i, x⟩ := p
              simp only [partsL, ih ho.2, List.map_cons]
              rw [if_pos ho.1]
          have hcs' : fillL (List.replicate len z.cells.toList).flatten ((parts.toList.map fun p => (p.1 * s, s, p.2)).map fun p => (p.1, p.2.1, ev σ p.2.2)) = some cs := by
            rw [List.map_map]; exact hcs
          obtain ⟨r', k1, k2, k3, k4⟩ := fill_ok (place := fun i => some (i * s, s)) (fun i x hi => hi) hσ parts.toList _ (hpl _ hp6) _ _ cs r1 r2 hcs'
          have hrun : (Instr.buildSlice t len ⟨parts.toList.map fun p => (p.1, e p.2)⟩).run P w = .ok (.slice (some ⟨w.heap.size, 0, none⟩) len len) (w.alloc (.cells r' el)) := by
            unfold Instr.buildSlice
            have hnle : ¬ (len * s > 2 ^ 24) := Nat.not_lt.2 hp5
            rw [Sem.run_bind, run_under hel]
            simp only [Result.andThen_ok, Sem.run_bind, run_size hs, if_neg hnle]
            by_cases h0 : len * s = 0
            · have hl0 : len = 0 := by rcases Nat.mul_eq_zero.1 h0 with h | h <;> omega
              subst hl0
              have hr0 : Array.range 0 = #[] := by simp
              simp only [Nat.zero_mul, hr0, List.map_toArray, List.map_nil] at k1
              simp only [Nat.zero_mul, if_true, hr0, List.map_toArray, List.map_nil, Sem.run_pure, Result.andThen_ok, k1, Sem.run_bind, run_newRow]
            · simp only [if_neg h0, Sem.run_bind, run_zero hz, Sem.run_pure, Result.andThen_ok, hp3, k1, run_newRow]
          refine ⟨.cells r' el, fun r => .slice (some ⟨r, 0, none⟩) len len, ?_, .row el k2 k3, slc len len⟩
          rw [Sem.run_bind, hrun]; rfl
        · cases hc
      · cases hc
    · cases hc
  case makeMap t x =>
    cases x with
    | some y => cases hc
    | none =>
      cases hc; simp only [alcOf] at ha; cases ha
      refine ⟨.map #[] 0, fun r => .map (some r), rfl, ⟨(fun cs k q => by cases q), (fun es t q => by cases q; exact ⟨rfl, rfl, rfl⟩)⟩, fun ρ' w' c r hr => .map _ _ hr⟩
  case makeSlice t l c =>
    simp only [compOp] at hc
    split at hc
    · rename_i ho
      have vl := hσ l (okOps_mem ho (by simp))
      have vc := hσ c (okOps_mem ho (by simp))
      split at hc
      · rename_i el hel
        split at hc
        · rename_i s b z hs hb hz
          split at hc
          · rename_i hp
            obtain ⟨hp1, hp2, hp3, hp4, hp5⟩ := hp
            cases hc; simp only [alcOf] at ha
            split at ha
            · rename_i q1 nl q2 nc hl hcc
              rw [hl] at vl; rw [hcc] at vc
              split at ha
              · rename_i hle
                obtain ⟨h0, h1, h2⟩ := hle
                cases ha
                obtain ⟨ml, rfl⟩ := Int.eq_ofNat_of_zero_le h0
                obtain ⟨mc, rfl⟩ := Int.eq_ofNat_of_zero_le (Int.le_trans h0 h1)
                have hmc : mc * b ≤ 2 ^ 44 := by exact_mod_cast h2
                have hmc2 : mc ≤ 2 ^ 44 := Nat.le_trans (Nat.le_mul_of_pos_right _ hp4) hmc
                obtain ⟨za, zb⟩ := plainV_cells (ρ := ρ) (w := w) hp1 (nt hp5)
                obtain ⟨r1, r2⟩ := zeros_row z.cells (by omega) mc za zb
                rw [hp2] at r1
                simp only [Int.toNat_natCast]
                obtain ⟨i, hi, hib⟩ := run_bytes (w := w) hb
                have hrun : (Instr.makeSlice t (e l) (e c)).run P w = .ok (.slice (some ⟨w.heap.size, 0, none⟩) ml mc) (w.alloc (.cells ((Array.range (mc * s)).map (z.cells[· % s]!)) el)) := by
                  rw [vl.of_int, vc.of_int]
                  unfold Instr.makeSlice
                  rw [Sem.run_bind, run_under hel]
                  have w1 : IntKind.i64.wrap (ml : Int) = ml := wrap_small (by omega) (by omega)
                  have w2 : IntKind.i64.wrap (mc : Int) = mc := wrap_small (by omega) (by omega)
                  have hbig : ¬ ((b : Int) * mc > 2 ^ 48) := by
                    have : (b : Int) * mc ≤ 2 ^ 44 := by rw [Int.mul_comm]; exact_mod_cast hmc
                    omega
                  simp only [Result.andThen_ok, Sem.run_bind, asInt, asIntOf, Sem.run_pure, hi, hib, w1, w2]
                  have hcond : ((decide ((mc : Int) < 0) || decide ((b : Int) * mc > 2 ^ 48)) || decide ((ml : Int) < 0) || decide ((ml : Int) > mc)) = false := by
                    simp only [Bool.or_eq_false_iff, decide_eq_false_iff_not]
                    refine ⟨⟨⟨by omega, hbig⟩, by omega⟩, by omega⟩
                  simp only [hcond, Bool.false_eq_true, if_false, Int.toNat_natCast, Sem.run_bind, run_askRoom, Result.andThen_ok, run_size hs]
                  by_cases hz0 : mc * s = 0
                  · have hm0 : mc = 0 := by rcases Nat.mul_eq_zero.1 hz0 with h | h <;> omega
                    subst hm0
                    have hr0 : Array.range 0 = #[] := by simp
                    simp only [Nat.zero_mul, if_true, hr0, List.map_toArray, List.map_nil, Sem.run_pure, Result.andThen_ok, Sem.run_bind, run_newRow]
                  · simp only [if_neg hz0, Sem.run_bind, run_zero hz, Sem.run_pure, Result.andThen_ok, hp2, run_newRow]
                refine ⟨.cells ((Array.range (mc * s)).map (z.cells[· % s]!)) el, fun r => .slice (some ⟨r, 0, none⟩) ml mc, ?_, .row el r1 r2, slc ml mc⟩
                have : execOp e ⟨dst, .makeSlice t l c, type, pos, after, guard⟩ = (do pure (.value (← Instr.makeSlice t (e l) (e c)))) := rfl
                rw [this, Sem.run_bind, hrun]; rfl
              · cases ha
            · cases ha
          · cases hc
        · cases hc
      · cases hc
    · cases hc
  case call c =>
    exfalso
    obtain ⟨callee, args, ats⟩ := c
    cases callee with
    | value g =>
      simp only [compOp] at hc
      split at hc
      · split at hc
        · split at hc
          · cases hc; cases ha
          · cases hc
        · cases hc; cases ha
      · cases hc
    | invoke r m => cases hc
    | builtin b => cases b <;> simp only [compOp] at hc <;> (repeat' (first | (cases hc; done) | split at hc)) <;> (cases hc; cases ha)
  case makeFunc fn a c =>
    exfalso
    cases fn <;> simp only [compOp] at hc <;> (repeat' (first | (cases hc; done) | split at hc)) <;> (cases hc; cases ha)
  all_goals
    exfalso
    first
      | (cases hc; done)
      | (simp only [compOp] at hc
         repeat' (first | (cases hc; done) | split at hc)
         all_goals first
           | (cases hc; cases ha; done)
           | (obtain ⟨_, _, rfl⟩ := Option.map_eq_some_iff.1 hc; cases ha))
/-- A block that nothing knows is told beside a new one. -/
theorem Inv.tellB (hI : Inv lo n0 w0 ρ h w) {b : Nat} (hb : b < h.n) (hlo : lo ≤ b) (hρ : ρ b = none) {x : HB} {o : Obj} (hg : h.get b = some x) (hR : ObjR ρ w x o) :
    Inv lo n0 w0 (Rho.set ρ b w.heap.size 0) h (w.alloc o) ∧ (∀ x y, ρ x = some y → (Rho.set ρ b w.heap.size 0) x = some y) ∧ (∀ r, rowSize w r ≤ rowSize (w.alloc o) r) ∧ (∀ x, x ≠ b → ρ x = none → (Rho.set ρ b w.heap.size 0) x = none) :=
  hI.tell hb hlo hρ o (fun cs hc => by
    rcases Heap.cells_some hc with h1 | ⟨c, t, fl, h1, _⟩
    · rw [hg] at h1; cases h1
      obtain ⟨_, c, t, h2, h3, h4⟩ := hR.1 _ _ rfl
      exact ⟨c, t, h2, h3, h4⟩
    · rw [hg] at h1; cases h1
      obtain ⟨h2, _⟩ := hR.1 _ _ rfl
      cases h2) (fun es t hm => by
    rw [hg] at hm; cases hm
    obtain ⟨h1, h2, h3⟩ := hR.2 _ _ rfl
    exact ⟨h1, by rw [h3, h2]⟩)
end
end Go.Proofs.Ytbjgnogcjglcoaa.Hm
