/- Operations that make blocks, beside H's. -/
import Derived.Test.YtbjgnogcjglcoaaHT
namespace Go.Proofs.Ytbjgnogcjglcoaa.Hm
open Go Go.RowKit
set_option linter.all false
set_option linter.unusedSimpArgs false
section
variable {lo n0 : Nat} {w0 : World} {ρ : Rho} {h h' : Heap} {w : World} {P : Program} {σ : List Value} {e : Operand → Value} {dst : Option Tmp} {type : TypeId} {pos : String} {after : Array Edge} {guard : Option (Nat × Bool)} {hop : HOp} {v : Value}
theorem Inv.none_n (hI : Inv lo n0 w0 ρ h w) : ρ h.n = none := by
  cases hx : ρ h.n with
  | none => rfl
  | some x => exact absurd (hI.dom h.n x.1 x.2 (by rw [hx])).1 (Nat.lt_irrefl _)
theorem Inv.alloc (hI : Inv lo n0 w0 ρ h w) {cs : List Value} {c : Array Value} (t : TypeId) (hl : cs.length ≤ c.size) (hv : ∀ i, i < cs.length → VR ρ w (cs.getD i undef) (c.getD i undef) ∧ cell1 (cs.getD i undef) = true)
    {h2 : Heap} (hh : h2 = h.new cs ∨ h2 = h.newC cs) :
    Inv lo n0 w0 (Rho.set ρ h.n w.heap.size 0) h2 (w.alloc (.cells c t)) ∧ Ext ρ (Rho.set ρ h.n w.heap.size 0) h h2 w (w.alloc (.cells c t)) := by
  obtain ⟨k, hn, hg, hcl, hx, hx2, hcells⟩ : ∃ k : Option Nat, h2.n = h.n + 1 ∧ (∀ b, h2.get b = if b = h.n then some (.row cs k) else h.get b) ∧ (∀ c, (∃ y, h.cl c = some y) → h2.cl c = h.cl c) ∧
      (∀ cs' c, HB.row cs k = .row cs' (some c) → ∃ y, h2.cl c = some y ∧ h.n ≤ y.1) ∧ (∀ cs' c, HB.row cs k = .row cs' (some c) → h.cl c = none) ∧ h2.cells h.n = some cs := by
    rcases hh with rfl | rfl
    · exact ⟨none, rfl, Heap.get_new h cs, fun _ _ => rfl, fun _ _ e => by (cases e), fun _ _ e => by (cases e), by unfold Heap.cells; rw [Heap.get_new, if_pos rfl]⟩
    · have hm : h.cl h.m = none := by
        cases hx : h.cl h.m with
        | none => rfl
        | some x => exact absurd (Heap.cl_lt hx) (Nat.lt_irrefl _)
      refine ⟨some h.m, rfl, Heap.get_newC h cs, fun c ⟨y, hy⟩ => ?_, fun cs' c e => ?_, fun cs' c e => ?_, ?_⟩
      · rw [Heap.cl_newC, if_neg (fun e => by rw [e, hm] at hy; cases hy)]
      · cases e; exact ⟨(h.n, 0), by rw [Heap.cl_newC, if_pos rfl], Nat.le_refl _⟩
      · cases e; exact hm
      · unfold Heap.cells; rw [Heap.get_newC, if_pos rfl]; simp only [Heap.cl_newC, if_true]; rw [if_pos (Nat.zero_le _)]
  have hp := hI.push _ hn hg hcl hx hx2
  obtain ⟨a1, a2, a3, a4⟩ := hp.tell (b := h.n) (by omega) hI.lon hI.none_n (.cells c t) (fun cs' hc => by
    rw [hcells] at hc; cases hc; exact ⟨c, t, rfl, hl, hv⟩) (fun es t' hc => by rw [hg, if_pos rfl] at hc; cases hc)
  refine ⟨a1, a2, a3, by omega, fun x hx hr => ⟨a4 x (Nat.ne_of_lt hx) hr, by rw [hg, if_neg (Nat.ne_of_lt hx)]⟩⟩
theorem Inv.allocMap (hI : Inv lo n0 w0 ρ h w) :
    Inv lo n0 w0 (Rho.set ρ h.n w.heap.size 0) h.newMap (w.alloc (.map #[] 0)) ∧ Ext ρ (Rho.set ρ h.n w.heap.size 0) h h.newMap w (w.alloc (.map #[] 0)) := by
  have hg := Heap.get_newMap h
  have hp := hI.push (h' := h.newMap) _ rfl hg (fun _ _ => rfl) (fun _ _ e => by (cases e)) (fun _ _ e => by (cases e))
  obtain ⟨a1, a2, a3, a4⟩ := hp.tell (b := h.n) (by show h.n < h.n + 1; omega) hI.lon hI.none_n (.map #[] 0) (fun cs' hc => by
    unfold Heap.cells at hc; rw [hg, if_pos rfl] at hc; cases hc) (fun es t' hc => by rw [hg, if_pos rfl] at hc; cases hc; exact ⟨rfl, rfl⟩)
  exact ⟨a1, a2, a3, by show h.n ≤ h.n + 1; omega, fun x hx hr => ⟨a4 x (Nat.ne_of_lt hx) hr, by rw [hg, if_neg (Nat.ne_of_lt hx)]⟩⟩
theorem rho_new (ρ : Rho) (b r s : Nat) : (Rho.set ρ b r s) b = some (r, s) := by unfold Rho.set; rw [if_pos rfl]
theorem run_newRow (t : TypeId) (c : Array Value) : (newRow t c).run P w = .ok ⟨w.heap.size, 0, none⟩ (w.alloc (.cells c t)) := by
  rfl
theorem good_row (hI : Inv lo n0 w0 ρ h w) {cs : List Value} {c : Array Value} (t : TypeId) (hl : cs.length ≤ c.size) (hv : ∀ i, i < cs.length → VR ρ w (cs.getD i undef) (c.getD i undef) ∧ cell1 (cs.getD i undef) = true)
    {h2 : Heap} (hh : h2 = h.new cs ∨ h2 = h.newC cs) {s : Sem Value} {v v' : Value} (hs : s.run P w = .ok v' (w.alloc (.cells c t))) (hV : VR (Rho.set ρ h.n w.heap.size 0) (w.alloc (.cells c t)) v v') :
    Good lo n0 w0 P ρ h w (do pure (.value (← s))) v h2 := by
  obtain ⟨a1, a2⟩ := hI.alloc t hl hv hh
  exact good_v hs a1 a2 hV
theorem VRl.row {cs : List Value} {c : Array Value} (hv : VRl ρ w cs c.toList) (h1 : ∀ x ∈ cs, cell1 x = true) : cs.length ≤ c.size ∧ ∀ i, i < cs.length → VR ρ w (cs.getD i undef) (c.getD i undef) ∧ cell1 (cs.getD i undef) = true := by
  refine ⟨by rw [hv.1]; simp, fun i hi => ⟨by rw [getD_toList]; exact hv.2 i hi, h1 _ ?_⟩⟩
  rw [List.getD_eq_getElem?_getD, List.getElem?_eq_getElem hi]; simp
theorem nt {z : Value} (h : notTup z = true) : ∀ cs, z ≠ .tuple cs := by
  rintro cs rfl; cases h
theorem g_alloc {t : TypeId} (hI : Inv lo n0 w0 ρ h w) (hc : compOp P type (.alloc t) = some hop) (hx : xop lo σ h hop = some (v, h')) :
    Good lo n0 w0 P ρ h w (execOp e ⟨dst, .alloc t, type, pos, after, guard⟩) v h' := by
  simp only [compOp] at hc
  split at hc
  · rename_i z hz
    split at hc
    · rename_i hp
      cases hc; simp only [xop] at hx; cases hx
      obtain ⟨a, b⟩ := plainV_cells (ρ := ρ) (w := w) hp.1 (nt hp.2)
      obtain ⟨l1, l2⟩ := a.row b
      refine good_row hI t l1 l2 (.inl rfl) (s := Instr.alloc t true (.tuple #[])) (v' := .pointer (some ⟨w.heap.size, 0, none⟩)) ?_ ?_
      · simp [Instr.alloc, run_zero hz, newVar, run_newRow]
      · have := VR.ptr (w := w.alloc (.cells z.cells t)) h.n w.heap.size 0 0 (rho_new ρ h.n w.heap.size 0)
        simpa using this
    · cases hc
  · cases hc
theorem g_box {t : TypeId} {x : Operand} (hI : Inv lo n0 w0 ρ h w) (hσ : ∀ x, okOp x = true → VR ρ w (ev σ x) (e x)) (hc : compOp P type (.box t x) = some hop) (hx : xop lo σ h hop = some (v, h')) :
    Good lo n0 w0 P ρ h w (execOp e ⟨dst, .box t x, type, pos, after, guard⟩) v h' := by
  simp only [compOp] at hc
  split at hc
  · rename_i ho
    cases hc; simp only [xop] at hx
    split at hx
    · rename_i cs hcs
      cases hx
      obtain ⟨a, b⟩ := (hσ x ho).cells hcs
      obtain ⟨l1, l2⟩ := a.row b
      refine good_row hI t l1 l2 (.inl rfl) (s := Instr.box t (e x)) (v' := .pointer (some ⟨w.heap.size, 0, none⟩)) ?_ ?_
      · simp [Instr.box, newVar, run_newRow]
      · have := VR.ptr (w := w.alloc (.cells (e x).cells t)) h.n w.heap.size 0 0 (rho_new ρ h.n w.heap.size 0)
        simpa using this
    · cases hx
  · cases hc
/-! ### parts laid over cells -/
theorem foldl_splice (off : Nat) : ∀ (l : List Value) (k : Nat) (cells : Array Value), (l.zipIdx k).foldl (fun cs (p : Value × Nat) => cs.setIfInBounds (off + p.2) p.1) cells = spliceA cells (off + k) l
  | [], k, cells => rfl
  | x :: l, k, cells => by
    rw [List.zipIdx_cons, List.foldl_cons, foldl_splice off l (k + 1), spliceA]; rfl
theorem VRl.splice {cs vs : List Value} {cells : Array Value} {vs' : List Value} {off : Nat} (hc : VRl ρ w cs cells.toList) (hv : VRl ρ w vs vs') (hle : off + vs.length ≤ cs.length) :
    VRl ρ w (cs.take off ++ (vs ++ cs.drop (off + vs.length))) (spliceA cells off vs').toList := by
  have hl : (cs.take off ++ (vs ++ cs.drop (off + vs.length))).length = cs.length := by simp; omega
  have hcl : cs.length = cells.size := by have := hc.1; simpa using this
  refine ⟨by rw [hl, hc.1]; simp [spliceA_size], fun i hi => ?_⟩
  rw [hl] at hi
  rw [getD_splice _ _ _ hle, ← getD_toList (spliceA cells off vs'), spliceA_get _ _ _ (by rw [← hv.1]; omega), ← hv.1]
  split
  · exact hv.2 _ (by omega)
  · rw [getD_toList]; exact hc.2 i hi
theorem fill_ok {f : Nat → Option (Nat × Nat)} {place : Nat → Option (Nat × Nat)} (hf : ∀ i x, f i = some x → place i = some x) (hσ : ∀ x, okOp x = true → VR ρ w (ev σ x) (e x)) : ∀ (ps : List (Nat × Operand)) (hps : List (Nat × Nat × Operand)), partsL f ps = some hps →
    ∀ (cs : List Value) (cells : Array Value) (r : List Value), VRl ρ w cs cells.toList → (∀ x ∈ cs, cell1 x = true) → fillL cs (hps.map fun p => (p.1, p.2.1, ev σ p.2.2)) = some r →
      ∃ r' : Array Value, Instr.fill place cells (ps.map fun p => (p.1, e p.2)) = some r' ∧ VRl ρ w r r'.toList ∧ (∀ x ∈ r, cell1 x = true) ∧ r.length = cs.length
  | [], hps, hp, cs, cells, r, hv, h1, hr => by
    simp only [partsL] at hp; cases hp
    simp only [List.map_nil, fillL] at hr; cases hr
    exact ⟨cells, rfl, hv, h1, rfl⟩
  | (i, x) :: ps, hps, hp, cs, cells, r, hv, h1, hr => by
    simp only [partsL] at hp
    split at hp
    · rename_i o s rest hi hrest
      split at hp
      · rename_i ho
        cases hp
        simp only [List.map_cons, fillL] at hr
        split at hr
        · rename_i vs hvs
          split at hr
          · rename_i hle
            obtain ⟨rfl, hle⟩ := hle
            obtain ⟨a, b⟩ := (hσ x ho).cells hvs
            have hsz : (e x).cells.size = vs.length := by have := a.1; simp at this; omega
            have hcl : cs.length = cells.size := by have := hv.1; simpa using this
            have hlen : (cs.take o ++ (vs ++ cs.drop (o + vs.length))).length = cs.length := by simp; omega
            obtain ⟨r', k1, k2, k3, k4⟩ := fill_ok hf hσ ps rest hrest _ (spliceA cells o (e x).cells.toList) r (hv.splice a hle) (fun y hy => by
              simp only [List.mem_append] at hy
              rcases hy with hy | hy | hy
              · exact h1 y (List.mem_of_mem_take hy)
              · exact b y hy
              · exact h1 y (List.mem_of_mem_drop hy)) hr
            refine ⟨r', ?_, k2, k3, k4.trans hlen⟩
            simp only [List.map_cons, Instr.fill, hf i _ hi, hsz, ne_eq, not_true_eq_false, decide_false, Bool.false_or, decide_eq_true_eq]
            rw [if_neg (by omega)]
            have := foldl_splice o (e x).cells.toList 0 cells
            rw [← Array.foldl_toList, Array.toList_zipIdx]
            rw [this]; exact k1
          · cases hr
        · cases hr
      · cases hp
    · cases hp
theorem run_places (fs : Array Field) (hall : (fs.toList.all fun f => (sizeT P f.type).isSome) = true) :
    (fs.mapM fun f => do pure (f.offset, ← sizeOf f.type) : Sem (Array (Nat × Nat))).run P w = .ok (fs.map fun f => (f.offset, (sizeT P f.type).getD 0)) w := by
  obtain ⟨l⟩ := fs
  rw [Array.mapM_eq_mapM_toList, Sem.run_map]
  simp only at hall ⊢
  have : ∀ (l : List Field), (l.all fun f => (sizeT P f.type).isSome) = true → (l.mapM fun f => do pure (f.offset, ← sizeOf f.type) : Sem (List (Nat × Nat))).run P w = .ok (l.map fun f => (f.offset, (sizeT P f.type).getD 0)) w := by
    intro l
    induction l with
    | nil => intro _; simp
    | cons f l ih =>
      intro hl
      simp only [List.all_cons, Bool.and_eq_true] at hl
      obtain ⟨n, hn⟩ := Option.isSome_iff_exists.1 hl.1
      rw [List.mapM_cons, Sem.run_bind, Sem.run_bind, run_size hn]
      simp only [Result.andThen_ok, Sem.run_pure, Sem.run_bind, ih hl.2]
      simp [hn]
  rw [this l hall]
  simp
theorem ex_parts (parts : Array (Nat × Operand)) : (parts.map fun (i, x) => (i, e x)) = ⟨parts.toList.map fun p => (p.1, e p.2)⟩ := by
  cases parts; simp
theorem ex_build {t : TypeId} {parts : Array (Nat × Operand)} : execOp e ⟨dst, .build t parts, type, pos, after, guard⟩ = (do pure (.value (← Instr.build t ⟨parts.toList.map fun p => (p.1, e p.2)⟩))) := by
  rw [← ex_parts]; rfl
theorem ex_bslice {t : TypeId} {len : Nat} {parts : Array (Nat × Operand)} : execOp e ⟨dst, .buildSlice t len parts, type, pos, after, guard⟩ = (do pure (.value (← Instr.buildSlice t len ⟨parts.toList.map fun p => (p.1, e p.2)⟩))) := by
  rw [← ex_parts]; rfl
theorem g_build {t : TypeId} {parts : Array (Nat × Operand)} (hI : Inv lo n0 w0 ρ h w) (hσ : ∀ x, okOp x = true → VR ρ w (ev σ x) (e x)) (hc : compOp P type (.build t parts) = some hop) (hx : xop lo σ h hop = some (v, h')) :
    Good lo n0 w0 P ρ h w (execOp e ⟨dst, .build t parts, type, pos, after, guard⟩) v h' := by
  rw [ex_build]
  simp only [compOp] at hc
  split at hc
  · cases hc
  · rename_i z hz
    split at hc
    · rename_i hp
      obtain ⟨za, zb⟩ := plainV_cells (ρ := ρ) (w := w) hp.1 (nt hp.2)
      split at hc
      · rename_i fs hfs
        split at hc
        · cases hc
        · rename_i hall
          obtain ⟨hps, hpl, rfl⟩ := Option.map_eq_some_iff.1 hc
          simp only [xop] at hx
          split at hx
          · rename_i cs hcs
            cases hx
            have hall' : (fs.toList.all fun f => (sizeT P f.type).isSome) = true := by cases hq : (fs.toList.all fun f => (sizeT P f.type).isSome) <;> simp_all only [Bool.not_true, Bool.not_false, not_true_eq_false]
            obtain ⟨r', k1, k2, k3, _⟩ := fill_ok (place := fun i => (fs.map fun f => (f.offset, (sizeT P f.type).getD 0))[i]?) (fun i x hi => by
              split at hi
              · rename_i f hf
                obtain ⟨n, hn, rfl⟩ := Option.map_eq_some_iff.1 hi
                simp [Array.getElem?_map, hf, hn]
              · cases hi) hσ parts.toList hps hpl _ z.cells cs za zb hcs
            refine good_p hI (s := Instr.build t ⟨parts.toList.map fun p => (p.1, e p.2)⟩) (v' := .agg r') ?_ (VR.aggL k2 k3)
            unfold Instr.build
            simp only [Sem.run_bind, run_zero hz, run_under hfs, Result.andThen_ok, run_places fs hall', k1, Sem.run_pure]
          · cases hx
      · rename_i n el hel
        split at hc
        · rename_i s hs
          obtain ⟨hps, hpl, rfl⟩ := Option.map_eq_some_iff.1 hc
          simp only [xop] at hx
          split at hx
          · rename_i cs hcs
            cases hx
            obtain ⟨r', k1, k2, k3, _⟩ := fill_ok (place := fun i => some (i * s, s)) (fun i x hi => hi) hσ parts.toList hps hpl _ z.cells cs za zb hcs
            refine good_p hI (s := Instr.build t ⟨parts.toList.map fun p => (p.1, e p.2)⟩) (v' := .agg r') ?_ (VR.aggL k2 k3)
            unfold Instr.build
            simp only [Sem.run_bind, run_zero hz, run_under hel, Result.andThen_ok, run_size hs, k1, Sem.run_pure]
          · cases hx
        · cases hc
      · cases hc
    · cases hc
/-! ### rows of zeros -/
theorem zeros_get (z : List Value) (hz : 0 < z.length) : ∀ (n i : Nat), i < n * z.length → (List.replicate n z).flatten.getD i undef = z.getD (i % z.length) undef
  | 0, i, h => by omega
  | n + 1, i, h => by
    rw [List.replicate_succ, List.flatten_cons]
    simp only [List.getD_eq_getElem?_getD]
    by_cases hi : i < z.length
    · rw [List.getElem?_append_left hi, Nat.mod_eq_of_lt hi]
    · rw [List.getElem?_append_right (by omega), Nat.mod_eq_sub_mod (by omega)]
      have := zeros_get z hz n (i - z.length) (by rw [Nat.succ_mul] at h; omega)
      simpa only [List.getD_eq_getElem?_getD] using this
theorem zeros_len (z : List Value) (n : Nat) : (List.replicate n z).flatten.length = n * z.length := by simp [List.length_flatten]
theorem zeros_row (z : Array Value) (hz : 0 < z.size) (n : Nat) (hv : VRl ρ w z.toList z.toList) (h1 : ∀ x ∈ z.toList, cell1 x = true) :
    VRl ρ w (List.replicate n z.toList).flatten ((Array.range (n * z.size)).map (z[· % z.size]!)).toList ∧ (∀ x ∈ (List.replicate n z.toList).flatten, cell1 x = true) := by
  refine ⟨⟨by simp [zeros_len], fun i hi => ?_⟩, fun x hx => ?_⟩
  · rw [zeros_len] at hi
    rw [zeros_get _ (by simpa using hz) _ _ hi]
    have hi' : i < n * z.size := by simpa using hi
    have hm : i % z.size < z.size := Nat.mod_lt _ hz
    have e1 : ((Array.range (n * z.size)).map (z[· % z.size]!)).toList.getD i undef = z.toList.getD (i % z.toList.length) undef := by
      simp [List.getD_eq_getElem?_getD, hi', Array.getElem?_eq_getElem hm, getElem!_pos, hm]
    rw [e1]
    exact hv.getD _
  · obtain ⟨l, hl, hx⟩ := List.mem_flatten.1 hx
    have := (List.mem_replicate.1 hl).2
    subst this
    exact h1 x hx
theorem g_bslice {t : TypeId} {len : Nat} {parts : Array (Nat × Operand)} (hI : Inv lo n0 w0 ρ h w) (hσ : ∀ x, okOp x = true → VR ρ w (ev σ x) (e x)) (hc : compOp P type (.buildSlice t len parts) = some hop) (hx : xop lo σ h hop = some (v, h')) :
    Good lo n0 w0 P ρ h w (execOp e ⟨dst, .buildSlice t len parts, type, pos, after, guard⟩) v h' := by
  rw [ex_bslice]
  simp only [compOp] at hc
  split at hc
  · rename_i el hel
    split at hc
    · rename_i s z hs hz
      split at hc
      · rename_i hp
        obtain ⟨hp1, hp2, hp3, hp4, hp5, hp6⟩ := hp
        cases hc; simp only [xop] at hx
        split at hx
        · rename_i cs hcs
          cases hx
          obtain ⟨za, zb⟩ := plainV_cells (ρ := ρ) (w := w) hp1 (nt hp2)
          obtain ⟨r1, r2⟩ := zeros_row z.cells (by omega) len za zb
          rw [hp3] at r1
          have hpl : ∀ (ps : List (Nat × Operand)), okOps (ps.map (·.2)) = true → partsL (fun i => some (i * s, s)) ps = some (ps.map fun p => (p.1 * s, s, p.2)) := by
            intro ps
            induction ps with
            | nil => intro _; rfl
            | cons p ps ih =>
              intro ho
              simp only [List.map_cons, okOps, List.all_cons, Bool.and_eq_true] at ho
              obtain ⟨i, x⟩ := p
              simp only [partsL, ih ho.2, List.map_cons]
              rw [if_pos ho.1]
          have hcs' : fillL (List.replicate len z.cells.toList).flatten ((parts.toList.map fun p => (p.1 * s, s, p.2)).map fun p => (p.1, p.2.1, ev σ p.2.2)) = some cs := by
            rw [List.map_map]; exact hcs
          obtain ⟨r', k1, k2, k3, k4⟩ := fill_ok (place := fun i => some (i * s, s)) (fun i x hi => hi) hσ parts.toList _ (hpl _ hp6) _ _ cs r1 r2 hcs'
          obtain ⟨l1, l2⟩ := k2.row k3
          have hrun : (Instr.buildSlice t len ⟨parts.toList.map fun p => (p.1, e p.2)⟩).run P w = .ok (.slice (some ⟨w.heap.size, 0, none⟩) len len) (w.alloc (.cells r' el)) := by
            unfold Instr.buildSlice
            have hnle : ¬ (len * s > 2 ^ 24) := Nat.not_lt.2 hp5
            rw [Sem.run_bind, run_under hel]
            simp only [Result.andThen_ok, Sem.run_bind, run_size hs, if_neg hnle]
            by_cases h0 : len * s = 0
            · have hl0 : len = 0 := by rcases Nat.mul_eq_zero.1 h0 with h | h <;> omega
              subst hl0
              have hr0 : Array.range 0 = #[] := by simp
              simp only [Nat.zero_mul, hr0, List.map_toArray, List.map_nil] at k1
              simp only [Nat.zero_mul, if_true, hr0, List.map_toArray, List.map_nil, Sem.run_pure, Result.andThen_ok, k1, Sem.run_bind, run_newRow]
            · simp only [if_neg h0, Sem.run_bind, run_zero hz, Sem.run_pure, Result.andThen_ok, hp3, k1, run_newRow]
          obtain ⟨a1, a2⟩ := hI.alloc el l1 l2 (.inl rfl)
          refine good_v hrun a1 a2 ?_
          have := VR.sle (w := w.alloc (.cells r' el)) h.n w.heap.size 0 0 len len (rho_new ρ h.n w.heap.size 0)
          simpa using this
        · cases hx
      · cases hc
    · cases hc
  · cases hc
end
end Go.Proofs.Ytbjgnogcjglcoaa.Hm
