/- append beside H's: in its place, or in a new row, as the capacity happens to be. -/
import Derived.Test.YtbjgnogcjglcoaaHW
namespace Go.Proofs.Ytbjgnogcjglcoaa.Hm
open Go Go.RowKit
set_option linter.all false
set_option linter.unusedSimpArgs false
section
variable {lo n0 : Nat} {w0 : World} {ρ : Rho} {h h' : Heap} {w : World} {P : Program} {σ : List Value} {e : Operand → Value} {dst : Option Tmp} {type : TypeId} {pos : String} {after : Array Edge} {guard : Option (Nat × Bool)} {hop : HOp} {v : Value}
/-- A row more of a class, that nothing knows yet. -/
theorem Inv.extPush (hI : Inv lo n0 w0 ρ h w) {b cl fl fl' : Nat} {new : List Value} (hcl : h.cl cl = some (b, fl)) (hf : fl' = fl ∨ fl' = h.n) : Inv lo n0 w0 ρ (h.extC cl fl' new) w := by
  have hget : ∀ x, (h.extC cl fl' new).get x = if x = h.n then some (.row new (some cl)) else h.get x := Heap.get_extC h cl fl' new
  have hcls : ∀ x, (h.extC cl fl' new).cl x = if x = cl then some (h.n, fl') else h.cl x := Heap.cl_extC hcl fl' new
  have hne : ∀ x r s, ρ x = some (r, s) → x ≠ h.n := fun x r s ex => Nat.ne_of_lt (hI.dom x r s ex).1
  have hother : ∀ x cs2, x ≠ h.n → (h.extC cl fl' new).cells x = some cs2 → h.cells x = some cs2 := by
    intro x cs2 hnx h2
    rcases Heap.cells_some h2 with hg2 | ⟨c2, t, f2, hg2, hc2, hle2⟩ <;> rw [hget, if_neg hnx] at hg2
    · unfold Heap.cells; rw [hg2]
    · have hxlt := Heap.get_lt hg2
      rw [hcls] at hc2
      by_cases ec : c2 = cl
      · subst ec
        rw [if_pos rfl] at hc2; cases hc2
        rcases hf with rfl | rfl
        · unfold Heap.cells; rw [hg2]; simp only [hcl]; rw [if_pos hle2]
        · omega
      · rw [if_neg ec] at hc2
        unfold Heap.cells; rw [hg2]; simp only [hc2]; rw [if_pos hle2]
  have hlive : ∀ x, x ≠ h.n → (h.extC cl fl' new).live x → h.live x := by
    rintro x hnx (⟨cs2, h2⟩ | ⟨es, t, h2⟩)
    · exact .inl ⟨cs2, hother x cs2 hnx h2⟩
    · rw [hget, if_neg hnx] at h2; exact .inr ⟨es, t, h2⟩
  refine ⟨hI.below, hI.n0le, by show lo ≤ h.n + 1; have := hI.lon; omega, fun x r s ex => ⟨by show x < h.n + 1; have := (hI.dom x r s ex).1; omega, (hI.dom x r s ex).2⟩, hI.new, fun x r s cs2 ex hc2 => hI.row x r s cs2 ex (hother x cs2 (hne x r s ex) hc2),
    fun x r s es t ex hg2 => hI.map x r s es t ex (by rw [hget, if_neg (hne x r s ex)] at hg2; exact hg2), fun b1 b2 r s1 s2 e1 e2 hn hlo2 hl1 hl2 => ?_, fun b1 b2 c1 cs1 cs2 f1 r s1 s2 hg1 hc1 e1 e2 hg2 hle' => ?_, fun b1 cs1 c1 t f1 hg1 hc1 => ?_, fun b1 cs1 c1 hg1 => ?_⟩
  · obtain ⟨c2, y1, y2, k1, k2⟩ := hI.sep b1 b2 r s1 s2 e1 e2 hn hlo2 (hlive b1 (hne _ _ _ e1) hl1) (hlive b2 (hne _ _ _ e2) hl2)
    exact ⟨c2, y1, y2, by rw [hget, if_neg (hne _ _ _ e1)]; exact k1, by rw [hget, if_neg (hne _ _ _ e2)]; exact k2⟩
  · rw [hget, if_neg (hne _ _ _ e1)] at hg1
    rw [hget, if_neg (hne _ _ _ e2)] at hg2
    by_cases ec : c1 = cl
    · subst ec
      rw [hcls, if_pos rfl] at hc1; cases hc1
      exact absurd rfl (hne _ _ _ e1)
    · rw [hcls, if_neg ec] at hc1
      exact hI.tip b1 b2 c1 cs1 cs2 f1 r s1 s2 hg1 hc1 e1 e2 hg2 hle'
  · rw [hget] at hg1
    rw [hcls] at hc1
    by_cases ec : c1 = cl
    · subst ec
      rw [if_pos rfl] at hc1; cases hc1
      split at hg1
      · omega
      · exact Nat.le_of_lt (Heap.get_lt hg1)
    · rw [if_neg ec] at hc1
      split at hg1
      · cases hg1; exact absurd rfl ec
      · exact hI.clt b1 cs1 c1 t f1 hg1 hc1
  · rw [hget] at hg1
    rw [hcls]
    by_cases ec : c1 = cl
    · exact ⟨_, if_pos ec⟩
    · rw [if_neg ec]
      split at hg1
      · cases hg1; exact absurd rfl ec
      · exact hI.clm b1 cs1 c1 hg1
theorem Inv.extAlloc (hI : Inv lo n0 w0 ρ h w) {b cl fl fl' : Nat} {cs : List Value} {c : Array Value} (t : TypeId) (hcl : h.cl cl = some (b, fl)) (hf : fl' = fl ∨ fl' = h.n) (hfl : fl ≤ b) (hb : b < h.n)
    (hl : cs.length ≤ c.size) (hv : ∀ i, i < cs.length → VR ρ w (cs.getD i undef) (c.getD i undef) ∧ cell1 (cs.getD i undef) = true) :
    Inv lo n0 w0 (Rho.set ρ h.n w.heap.size 0) (h.extC cl fl' cs) (w.alloc (.cells c t)) ∧ Ext ρ (Rho.set ρ h.n w.heap.size 0) h (h.extC cl fl' cs) w (w.alloc (.cells c t)) := by
  have hget : ∀ x, (h.extC cl fl' cs).get x = if x = h.n then some (.row cs (some cl)) else h.get x := Heap.get_extC h cl fl' cs
  have hcells : (h.extC cl fl' cs).cells h.n = some cs := by
    unfold Heap.cells; rw [hget, if_pos rfl]; simp only [Heap.cl_extC hcl, if_true]
    rw [if_pos (by rcases hf with rfl | rfl <;> omega)]
  obtain ⟨a1, a2, a3, a4⟩ := (hI.extPush (new := cs) hcl hf).tell (b := h.n) (by show h.n < h.n + 1; omega) hI.lon hI.none_n (.cells c t) (fun cs' hc => by
    rw [hcells] at hc; cases hc; exact ⟨c, t, rfl, hl, hv⟩) (fun es t' hc => by rw [hget, if_pos rfl] at hc; cases hc)
  exact ⟨a1, a2, a3, by show h.n ≤ h.n + 1; omega, fun x hx hr => ⟨a4 x (Nat.ne_of_lt hx) hr, by rw [hget, if_neg (Nat.ne_of_lt hx)]⟩⟩
theorem growBy_le (n : Nat) : ∀ (r c : Nat), Builtin.growBy n r c ≤ max c (n + (n + 768) / 4)
  | 0, c => by simp [Builtin.growBy]; omega
  | r + 1, c => by
    unfold Builtin.growBy
    split
    · omega
    · have := growBy_le n r (c + (c + 768) / 4)
      omega
theorem nextcap_le {need cap : Nat} (h : cap < need) : Builtin.nextslicecap need cap ≤ 3 * need := by
  unfold Builtin.nextslicecap
  split
  · omega
  · split
    · omega
    · have := growBy_le need 4 cap
      omega
theorem run_cap (need cap : Nat) (el : TypeId) : ∃ nc, need ≤ nc ∧ (choose (.appendCap need cap el)).run P w = .ok nc w.drew := by
  exact ⟨need + w.tape w.drawn (.appendCap need cap el) % (2 ^ 63 - need), Nat.le_add_right need _, rfl⟩
theorem new_run {esz : Nat} {x x' : Value} {new : List Value} {n : Nat} (hI : Inv lo n0 w0 ρ h w) (hv : VR ρ w x x') (hn : newCells h esz x = some (new, n)) :
    (Builtin.lenOf x').run P w = .ok n w ∧ (∃ arr, (Builtin.firstCells esz n x').run P w = .ok arr w ∧ VRl ρ w new arr.toList ∧ arr.toList.length = n * esz) ∧ (∀ y ∈ new, cell1 y = true) ∧ new.length = n * esz ∧ ∃ a c, x' = .slice a n c := by
  cases x <;> simp only [newCells] at hn <;> (try (cases hn; done))
  rename_i a m c
  cases a with
  | none =>
    simp only at hn
    split at hn
    · rename_i e0
      subst e0; cases hn
      cases hv
      exact ⟨by simp [Builtin.lenOf], ⟨#[], by simp [Builtin.firstCells], .nil _ _, by simp⟩, fun y hy => absurd hy (by simp), by simp, ⟨_, _, rfl⟩⟩
    · cases hn
  | some ad =>
    obtain ⟨b, o, z⟩ := ad
    simp only at hn
    split at hn
    · rename_i e0
      subst e0; cases hn
      obtain ⟨a, c', hx⟩ : ∃ a c', x' = .slice (some a) 0 c' := by cases hv <;> exact ⟨_, _, rfl⟩
      subst hx
      exact ⟨by simp [Builtin.lenOf], ⟨#[], by simp [Builtin.firstCells, loadCells, loadCellsFrom], .nil _ _, by simp⟩, fun y hy => absurd hy (by simp), by simp, ⟨_, _, rfl⟩⟩
    · rename_i hm0
      obtain ⟨l, hl, e2⟩ := Option.map_eq_some_iff.1 hn
      cases e2
      obtain ⟨r, s, c', hx, hρ⟩ : ∃ r s c', x' = .slice (some ⟨r, s + o, none⟩) n c' ∧ ρ b = some (r, s) := by
        cases hv with
        | sle _ r s _ _ _ hρ => exact ⟨_, _, _, rfl, hρ⟩
        | sli _ r s _ _ _ _ _ hρ => exact ⟨_, _, _, rfl, hρ⟩
        | slz => exact absurd rfl hm0
        | sez => exact absurd rfl hm0
      subst hx
      obtain ⟨l', k1, k2, k3, k4, _⟩ := hI.rd (P := P) hρ hl
      exact ⟨by simp [Builtin.lenOf], ⟨l', by simpa [Builtin.firstCells] using k1, k2, by rw [← k2.1]; exact k3⟩, k4, k3, ⟨_, _, rfl⟩⟩
section run
variable {st xt el : TypeId} {esz bytes : Nat} {zi : TypeInfo} {z : Value}
/-- The machine's append where there is room. -/
theorem run_room (hst : P.underlying st = some (.slice el)) (hxt : ∃ k, P.underlying xt = some (.slice k)) (hs : sizeT P el = some esz) {base : Option Addr} {len cap n : Nat} {x' : Value} {arr : Array Value} {w2 : World}
    (hln : (Builtin.lenOf x').run P w = .ok n w) (hfc : (Builtin.firstCells esz n x').run P w = .ok arr w) (hle : len + n ≤ cap)
    (hst2 : (match base with | some a => storeCells (a.add (len * esz)) arr.toList | none => pure ()).run P w = .ok () w2) :
    (Builtin.append_ #[st, xt] type #[.slice base len cap, x']).run P w = .ok (.slice base (len + n) cap) w2 := by
  obtain ⟨k, hk⟩ := hxt
  unfold Builtin.append_
  simp only [List.getElem?_toArray, List.getElem?_cons_zero, List.getElem?_cons_succ, Sem.run_bind, run_under hst, run_under hk, Result.andThen_ok, run_size hs, Sem.run_pure, Bool.false_eq_true, if_false, hln, Bool.not_false, if_true, Sem.run_ite, hle, hfc]
  cases base with
  | none => simp only [Sem.run_pure] at hst2; cases hst2; simp only [Sem.run_pure, Result.andThen_ok, hfc, Sem.run_bind]
  | some a => simp only at hst2; simp only [Sem.run_bind, hfc, Result.andThen_ok, hst2, Sem.run_pure]
/-- .. and where there is none. -/
theorem run_noroom (hst : P.underlying st = some (.slice el)) (hxt : ∃ k, P.underlying xt = some (.slice k)) (hs : sizeT P el = some esz) (hb : bytesT P el = some bytes) (hb0 : 0 < bytes) (hz : zeroT P el = some z) {base : Option Addr} {len cap n : Nat} {x' : Value} {old arr : Array Value}
    (hln : (Builtin.lenOf x').run P w = .ok n w) (hfo : ∀ w', w'.heap = w.heap → (Builtin.firstCells esz len (.slice base len cap)).run P w' = .ok old w') (hfc : ∀ w', w'.heap = w.heap → (Builtin.firstCells esz n x').run P w' = .ok arr w') (hlt : cap < len + n) (hbd : (len + n) * bytes ≤ 2 ^ 44) :
    ∃ rest nc, len + n ≤ nc ∧ (Builtin.append_ #[st, xt] type #[.slice base len cap, x']).run P w = .ok (.slice (some ⟨w.heap.size, 0, none⟩) (len + n) nc) (w.drew.alloc (.cells (old ++ arr ++ rest) el)) ∧ rest.size = (nc - (len + n)) * z.cells.size := by
  obtain ⟨k, hk⟩ := hxt
  obtain ⟨nc, hnc, hch⟩ := run_cap (P := P) (w := w) (len + n) cap el
  obtain ⟨i, hi, hib⟩ := run_bytes (w := w) hb
  have hi' : ∀ w', (typeInfo el).run P w' = .ok i w' := by
    intro w'
    unfold bytesT at hb
    obtain ⟨j, hj, _⟩ := Option.map_eq_some_iff.1 hb
    have h1 := run_info (P := P) (w := w) hj
    rw [hi] at h1; cases h1
    exact run_info hj
  have hdr : w.drew.heap = w.heap := rfl
  refine ⟨Builtin.zeroCells z.cells (nc - (len + n)), nc, hnc, ?_, by simp [Builtin.zeroCells]⟩
  have hncap := nextcap_le hlt
  have hbig : ¬ (Builtin.nextslicecap (len + n) cap * bytes > 2 ^ 48) := by
    have h1 : Builtin.nextslicecap (len + n) cap * bytes ≤ 3 * (len + n) * bytes := Nat.mul_le_mul_right _ hncap
    rw [Nat.mul_assoc] at h1
    omega
  have hnle : ¬ (len + n ≤ cap) := by omega
  unfold Builtin.append_
  simp only [List.getElem?_toArray, List.getElem?_cons_zero, List.getElem?_cons_succ, Sem.run_bind, run_under hst, run_under hk, Result.andThen_ok, run_size hs, Sem.run_pure, Bool.false_eq_true, if_false, hln, Bool.not_false, if_true, Sem.run_ite, hnle, hi', hib, false_or, Nat.ne_of_gt hb0, and_false, hbig, hch, run_askRoom, hfo w.drew hdr, hfc w.drew hdr, run_zero hz, run_newRow]
  rfl
end run
theorem firstCells_heap {P : Program} {esz n : Nat} {x' : Value} {arr : Array Value} {a : Option Addr} {c m : Nat} (hx : x' = .slice a m c) (hs : ∀ b, a = some b → n * esz = 0 ∨ ∃ r o, b = ⟨r, o, none⟩) (h1 : (Builtin.firstCells esz n x').run P w = .ok arr w)
    (hrd : ∀ b, a = some b → n * esz = 0 ∨ ∃ cc e fz, w.heap[b.block]? = some (.cells cc e fz) ∧ b.off + n * esz ≤ cc.size) : ∀ w', w'.heap = w.heap → (Builtin.firstCells esz n x').run P w' = .ok arr w' := by
  intro w' hw
  subst hx
  cases a with
  | none => simp only [Builtin.firstCells, Sem.run_pure] at h1 ⊢; cases h1; rfl
  | some b =>
    rcases hs b rfl with h0 | ⟨r, o, rfl⟩
    · simp only [Builtin.firstCells, h0, loadCells, loadCellsFrom, Sem.run_pure] at h1 ⊢; cases h1; rfl
    rcases hrd _ rfl with h0 | ⟨cc, e, fz, k1, k2⟩
    · simp only [Builtin.firstCells, h0, loadCells, loadCellsFrom, Sem.run_pure] at h1 ⊢; cases h1; rfl
    · simp only [Builtin.firstCells] at h1 ⊢
      obtain ⟨l, q1, q2⟩ := run_loadCells (P := P) k1 k2
      obtain ⟨l2, q3, q4⟩ := run_loadCells (P := P) (w := w') (hw ▸ k1) k2
      rw [q1] at h1; cases h1
      rw [q3]
      have : l2 = arr := by
        apply Array.toList_inj.1; rw [q4, q2]
      rw [this]
theorem Inv.rowsz (hI : Inv lo n0 w0 ρ h w) {b r s o n : Nat} {l : List Value} (hρ : ρ b = some (r, s)) (hl : h.rd b o n = some l) : ∃ cc e fz, w.heap[r]? = some (.cells cc e fz) ∧ s + o + n ≤ cc.size := by
  unfold Heap.rd at hl
  split at hl
  · rename_i cs hc
    split at hl
    · rename_i hle
      obtain ⟨c, e, fz, h1, h2, h3, h4⟩ := hI.row b r s cs hρ hc
      exact ⟨c, e, fz, h1, by omega⟩
    · cases hl
  · cases hl
theorem VRl.rows {cs : List Value} {old arr rest : Array Value} (hv : VRl ρ w cs (old.toList ++ arr.toList)) (h1 : ∀ x ∈ cs, cell1 x = true) :
    cs.length ≤ (old ++ arr ++ rest).size ∧ ∀ i, i < cs.length → VR ρ w (cs.getD i undef) ((old ++ arr ++ rest).getD i undef) ∧ cell1 (cs.getD i undef) = true := by
  have hl : cs.length = old.size + arr.size := by have := hv.1; simpa using this
  refine ⟨by simp; omega, fun i hi => ⟨?_, ?_⟩⟩
  · have := hv.2 i hi
    rw [getD_toList]
    have e1 : (old ++ arr ++ rest).toList.getD i undef = (old.toList ++ arr.toList).getD i undef := by
      simp only [List.getD_eq_getElem?_getD, Array.toList_append]
      rw [List.getElem?_append_left (by simp; omega)]
    rw [e1]; exact this
  · have := h1 (cs.getD i undef) (by rw [List.getD_eq_getElem?_getD, List.getElem?_eq_getElem hi]; simp)
    exact this
theorem vr_fresh {old arr rest : Array Value} {el : TypeId} {need nc esz : Nat} (h : Heap) (ρ : Rho) (w : World) (h1 : (old ++ arr).size = need * esz) (h2 : rest.size = (nc - need) * esz) (h3 : need ≤ nc) :
    VR (Rho.set ρ h.n w.heap.size 0) (w.drew.alloc (.cells (old ++ arr ++ rest) el)) (.slice (some ⟨h.n, 0, some esz⟩) need need) (.slice (some ⟨w.heap.size, 0, none⟩) need nc) := by
  have hsz : rowSize (w.drew.alloc (.cells (old ++ arr ++ rest) el)) w.heap.size = (old ++ arr ++ rest).size := by
    unfold rowSize; show (match (w.heap.push _)[w.heap.size]? with | some (.cells c _ _) => c.size | _ => 0) = _; simp
  have := VR.sli (w := w.drew.alloc (.cells (old ++ arr ++ rest) el)) h.n w.heap.size 0 0 need need nc esz (rho_new ρ h.n w.heap.size 0) h3 (by
    rw [hsz, Array.size_append, h1, h2, ← Nat.add_mul]
    have : need + (nc - need) = nc := by omega
    rw [this]; omega)
  simpa using this
theorem good_append {st xt el : TypeId} {esz bytes : Nat} {z : Value} (hI : Inv lo n0 w0 ρ h w) (hst : P.underlying st = some (.slice el)) (hxt : ∃ k, P.underlying xt = some (.slice k)) (hs : sizeT P el = some esz) (hb : bytesT P el = some bytes) (he0 : 0 < esz) (hb0 : 0 < bytes) (hz : zeroT P el = some z) (hzs : z.cells.size = esz)
    {s x s' x' : Value} (hv1 : VR ρ w s s') (hv2 : VR ρ w x x') (hx : appendOf lo h esz bytes s x = some (v, h')) : Good lo n0 w0 P ρ h w (do pure (.value (← Builtin.append_ #[st, xt] type #[s', x']))) v h' := by
  unfold appendOf at hx
  split at hx
  · rename_i base len cap new n hnew
    obtain ⟨hln, ⟨arr, hfc, hva, harl⟩, h1n, hnl, ax, cx, hxs⟩ := new_run (P := P) hI hv2 hnew
    have hasz : arr.size = n * esz := by simpa using harl
    have hfc' : ∀ w', w'.heap = w.heap → (Builtin.firstCells esz n x').run P w' = .ok arr w' := by
      cases x <;> simp only [newCells] at hnew <;> (try (cases hnew; done))
      rename_i a m c
      cases a with
      | none =>
        cases hv2
        exact firstCells_heap (a := none) rfl (fun b e => by cases e) hfc (fun b e => by cases e)
      | some ad =>
        obtain ⟨b, o, zz⟩ := ad
        simp only at hnew
        split at hnew
        · rename_i e0; subst e0; cases hnew
          obtain ⟨a2, c', hx2⟩ : ∃ a c', x' = .slice (some a) 0 c' := by cases hv2 <;> exact ⟨_, _, rfl⟩
          exact firstCells_heap hx2 (fun b e => .inl (by simp)) hfc (fun b e => .inl (by simp))
        · rename_i hm0
          obtain ⟨l, hl, e2⟩ := Option.map_eq_some_iff.1 hnew
          cases e2
          obtain ⟨r, s2, c', hx2, hρ⟩ : ∃ r s2 c', x' = .slice (some ⟨r, s2 + o, none⟩) n c' ∧ ρ b = some (r, s2) := by
            cases hv2 with
            | sle _ r s _ _ _ hρ => exact ⟨_, _, _, rfl, hρ⟩
            | sli _ r s _ _ _ _ _ hρ => exact ⟨_, _, _, rfl, hρ⟩
            | slz => exact absurd rfl hm0
            | sez => exact absurd rfl hm0
          obtain ⟨cc, ee, fz, q1, q2⟩ := hI.rowsz hρ hl
          exact firstCells_heap hx2 (fun b e => by cases e; exact .inr ⟨_, _, rfl⟩) hfc (fun b e => by cases e; exact .inr ⟨cc, ee, fz, q1, q2⟩)
    have harr1 : ∀ y ∈ arr.toList, cell1 y = true := by
      intro y hy
      obtain ⟨i, hi, rfl⟩ := List.getElem_of_mem hy
      have hi2 : i < new.length := by rw [hva.1]; exact hi
      have := hva.2 i hi2
      simp only [List.getD_eq_getElem?_getD, List.getElem?_eq_getElem hi, List.getElem?_eq_getElem hi2, Option.getD_some] at this
      exact this.cell1 (h1n _ (List.getElem_mem hi2))
    simp only at hx
    split at hx
    · rename_i hle
      split at hx
      · rename_i b o zz
        split at hx
        · rename_i hn0
          subst hn0; cases hx
          simp only [Nat.add_zero] at hle ⊢
          have harr : arr = #[] := by
            apply Array.toList_inj.1
            exact List.length_eq_zero_iff.1 (by rw [harl]; simp)
          obtain ⟨a', cap', hs', hcap⟩ : ∃ a' cap', s' = .slice (some a') len cap' ∧ len ≤ cap' := by
            cases hv1 with
            | sle => exact ⟨_, _, rfl, hle⟩
            | sli _ _ _ _ _ _ _ _ _ hc => exact ⟨_, _, rfl, Nat.le_trans hle hc⟩
            | slz => exact ⟨_, _, rfl, Nat.le_refl _⟩
            | sez => exact ⟨_, _, rfl, Nat.le_refl _⟩
          subst hs'
          have := run_room (P := P) (w := w) (type := type) hst hxt hs (base := some a') (len := len) (cap := cap') (w2 := w) hln hfc (by omega) (by rw [harr]; simp [storeCells])
          exact good_p hI this hv1
        · rename_i hn0
          obtain ⟨h2, hw2, e2⟩ := Option.map_eq_some_iff.1 hx
          cases e2
          have hpos : 0 < len + n := by omega
          obtain ⟨r, s0, cap', hs', hcap, hρ, hmk⟩ : ∃ r s0 cap', s' = .slice (some ⟨r, s0 + o, none⟩) len cap' ∧ cap ≤ cap' ∧ ρ b = some (r, s0) ∧
              ∀ (w2 : World) (m : Nat), (∀ r, rowSize w r ≤ rowSize w2 r) → VR ρ w2 (.slice (some ⟨b, o, zz⟩) m cap) (.slice (some ⟨r, s0 + o, none⟩) m cap') := by
            cases hv1 with
            | sle _ r s _ _ _ hρ => exact ⟨_, _, _, rfl, Nat.le_refl _, hρ, fun _ _ _ => .sle _ _ _ _ _ _ hρ⟩
            | sli _ r s _ _ _ _ _ hρ hc hr => exact ⟨_, _, _, rfl, hc, hρ, fun w2 m hsz => .sli _ _ _ _ _ _ _ _ hρ hc (Nat.le_trans hr (hsz _))⟩
            | slz => omega
            | sez => omega
          obtain ⟨w2, q1, q2, q3⟩ := hI.wr (P := P) hρ hw2 hva h1n harr1
          have hrun := run_room (P := P) (w := w) (type := type) hst hxt hs (base := some ⟨r, s0 + o, none⟩) (len := len) (cap := cap') (w2 := w2) hln hfc (by omega) (by
            simp only [add_off]; rw [Nat.add_assoc]; exact q1)
          subst hs'
          exact good_v hrun q2 q3 (hmk w2 (len + n) q3.sz)
      · split at hx
        · rename_i hn0
          cases hx
          have : len = 0 ∧ n = 0 := by omega
          obtain ⟨rfl, rfl⟩ := this
          cases hv1
          have harr : arr = #[] := by
            apply Array.toList_inj.1
            exact List.length_eq_zero_iff.1 (by rw [harl]; simp)
          have := run_room (P := P) (w := w) (type := type) hst hxt hs (base := none) (len := 0) (cap := 0) (w2 := w) hln hfc (by omega) (by simp)
          exact good_p hI this .nils
        · cases hx
    · rename_i hnle
      split at hx
      · rename_i hbd
        have hDrew := hI.drew
        have hdr0 : w.drew.heap = w.heap := rfl
        split at hx
        · -- nil
          split at hx
          · rename_i hl0
            subst hl0; cases hx
            cases hv1
            obtain ⟨rest, nc, k1, k2, k3⟩ := run_noroom (P := P) (w := w) (type := type) hst hxt hs hb hb0 hz (base := none) (len := 0) (cap := 0) (old := #[]) hln (fun w' _ => by simp [Builtin.firstCells]) hfc' (by omega) hbd
            have hva' : VRl ρ w.drew new ((#[] : Array Value).toList ++ arr.toList) := VRl.mono (w' := w.drew) (fun _ _ x => x) (fun r => Nat.le_refl (rowSize w r)) hva
            obtain ⟨q1, q2⟩ := hva'.rows (rest := rest) h1n
            obtain ⟨a1, a2⟩ := hDrew.alloc el q1 q2 (.inr rfl)
            refine good_v k2 a1 ⟨a2.le, a2.sz, a2.n, a2.keep⟩ (vr_fresh (old := #[]) (arr := arr) (rest := rest) (need := 0 + n) (nc := nc) (esz := esz) h ρ w (by simp [hasz]) (by rw [k3, hzs]) k1)
          · cases hx
        · -- of known capacity
          rename_i b o
          split at hx
          · rename_i old hold
            cases hx
            obtain ⟨a', hs', hold2⟩ : ∃ a', s' = .slice (some a') len cap ∧ ∃ oa : Array Value, VRl ρ w old oa.toList ∧ oa.size = len * esz ∧ (∀ y ∈ old, cell1 y = true) ∧ ∀ w', w'.heap = w.heap → (Builtin.firstCells esz len s').run P w' = .ok oa w' := by
              cases hv1 with
              | sle _ r s _ _ _ hρ =>
                obtain ⟨l', q1, q2, q3, q4, _⟩ := hI.rd (P := P) hρ hold
                obtain ⟨cc, ee, fz, q5, q6⟩ := hI.rowsz hρ hold
                exact ⟨_, rfl, l', q2, by have := q2.1; simp at this; omega, q4, firstCells_heap rfl (fun b e => by cases e; exact .inr ⟨_, _, rfl⟩) (by simpa [Builtin.firstCells] using q1) (fun b e => by cases e; exact .inr ⟨cc, ee, fz, q5, q6⟩)⟩
              | sez =>
                have hl0 : old = [] := by
                  unfold Heap.rd at hold
                  split at hold
                  · split at hold
                    · cases hold; simp
                    · cases hold
                  · cases hold
                subst hl0
                exact ⟨_, rfl, #[], .nil _ _, by simp, fun y hy => absurd hy (by simp), fun w' _ => by simp [Builtin.firstCells, loadCells, loadCellsFrom]⟩
            obtain ⟨oa, o1, o2, o3, o4⟩ := hold2
            subst hs'
            obtain ⟨rest, nc, k1, k2, k3⟩ := run_noroom (P := P) (w := w) (type := type) hst hxt hs hb hb0 hz (base := some a') (len := len) (cap := cap) (old := oa) hln o4 hfc' (by omega) hbd
            have hva' : VRl ρ w.drew (old ++ new) (oa.toList ++ arr.toList) := VRl.mono (w' := w.drew) (fun _ _ x => x) (fun r => Nat.le_refl (rowSize w r)) (o1.append hva)
            obtain ⟨q1, q2⟩ := hva'.rows (rest := rest) (fun y hy => by
              rcases List.mem_append.1 hy with hy | hy
              · exact o3 y hy
              · exact h1n y hy)
            obtain ⟨a1, a2⟩ := hDrew.alloc el q1 q2 (.inr rfl)
            refine good_v k2 a1 ⟨a2.le, a2.sz, a2.n, a2.keep⟩ (vr_fresh (old := oa) (arr := arr) (rest := rest) (need := len + n) (nc := nc) h ρ w (by simp [hasz, o2, Nat.add_mul]) (by rw [k3, hzs]) k1)
          · cases hx
        · -- of a capacity that is known from below
          rename_i b o e1
          split at hx
          · cases hx
          · rename_i hcond
            have he1 : e1 = esz := by
              rcases Nat.decEq e1 esz with h | h
              · exact absurd (.inl h) hcond
              · exact h
            have hlo : lo ≤ b := Nat.le_of_not_lt fun h => hcond (.inr h)
            subst he1
            split at hx
            · rename_i cs cl old hg hold
              split at hx
              · rename_i tip fl hcl
                split at hx
                · rename_i htip
                  subst htip
                  cases hx
                  have hfl : fl ≤ tip ∧ h.cells tip = some cs := by
                    have hc2 : ∃ c2, h.cells tip = some c2 := by
                      unfold Heap.rd at hold; split at hold
                      · exact ⟨_, by assumption⟩
                      · cases hold
                    obtain ⟨c2, hc2⟩ := hc2
                    rcases Heap.cells_some hc2 with h3 | ⟨c3, t3, f3, h3, h4, h5⟩
                    · rw [hg] at h3; cases h3
                    · rw [hg] at h3; cases h3
                      rw [hcl] at h4; cases h4
                      exact ⟨h5, hc2⟩
                  have hf' : (if o + len * e1 = cs.length then fl else h.n) = fl ∨ (if o + len * e1 = cs.length then fl else h.n) = h.n := by split <;> simp
                  -- a new block
                  have realloc : ∀ (a' : Addr) (cap' : Nat), s' = .slice (some a') len cap' → cap' < len + n → (∃ oa : Array Value, VRl ρ w old oa.toList ∧ oa.size = len * e1 ∧ (∀ y ∈ old, cell1 y = true) ∧ ∀ w', w'.heap = w.heap → (Builtin.firstCells e1 len s').run P w' = .ok oa w') →
                      Good lo n0 w0 P ρ h w (do pure (.value (← Builtin.append_ #[st, xt] type #[s', x']))) (.slice (some ⟨h.n, 0, some e1⟩) (len + n) (len + n)) (h.extC cl (if o + len * e1 = cs.length then fl else h.n) (old ++ new)) := by
                    rintro a' cap' rfl hlt ⟨oa, o1, o2, o3, o4⟩
                    obtain ⟨rest, nc, k1, k2, k3⟩ := run_noroom (P := P) (w := w) (type := type) hst hxt hs hb hb0 hz (base := some a') (len := len) (cap := cap') (old := oa) hln o4 hfc' hlt hbd
                    have hva' : VRl ρ w.drew (old ++ new) (oa.toList ++ arr.toList) := VRl.mono (w' := w.drew) (fun _ _ x => x) (fun r => Nat.le_refl (rowSize w r)) (o1.append hva)
                    obtain ⟨q1, q2⟩ := hva'.rows (rest := rest) (fun y hy => by
                      rcases List.mem_append.1 hy with hy | hy
                      · exact o3 y hy
                      · exact h1n y hy)
                    obtain ⟨a1, a2⟩ := hDrew.extAlloc el hcl hf' hfl.1 (Heap.get_lt hg) q1 q2
                    refine good_v k2 a1 ⟨a2.le, a2.sz, a2.n, a2.keep⟩ (vr_fresh (old := oa) (arr := arr) (rest := rest) (need := len + n) (nc := nc) h ρ w (by simp [hasz, o2, Nat.add_mul]) (by rw [k3, hzs]) k1)
                  cases hv1 with
                  | sli _ r s0 _ _ _ cap' _ hρ hc hr =>
                    obtain ⟨l', q1, q2, q3, q4, _⟩ := hI.rd (P := P) hρ hold
                    obtain ⟨cc, ee, fz, q5, q6⟩ := hI.rowsz hρ hold
                    have hfo := firstCells_heap (P := P) (esz := e1) (n := len) (m := len) (c := cap') (a := some ⟨r, s0 + o, none⟩) rfl (fun b e => by cases e; exact .inr ⟨_, _, rfl⟩) (by simpa [Builtin.firstCells] using q1) (fun b e => by cases e; exact .inr ⟨cc, ee, fz, q5, q6⟩)
                    have hl'sz : l'.size = len * e1 := by have := q2.1; simp at this; omega
                    by_cases hroom : len + n ≤ cap'
                    · -- in its place
                      obtain ⟨c0, e0, fz0, r1, r2, r3, r4⟩ := hI.row _ _ _ _ hρ hfl.2
                      obtain rfl := r2 hlo
                      have hcs : o + len * e1 ≤ cs.length := by
                        unfold Heap.rd at hold
                        rw [hfl.2] at hold
                        simp only at hold
                        split at hold
                        · assumption
                        · cases hold
                      have hrow : s0 + o + cap' * e1 ≤ c0.size := by
                        have : rowSize w r = c0.size := by unfold rowSize; rw [r1]
                        omega
                      have hmul : (len + n) * e1 ≤ cap' * e1 := Nat.mul_le_mul_right _ hroom
                      rw [Nat.add_mul] at hmul
                      have harr2 : arr.toList.length = n * e1 := harl
                      have hfit : s0 + o + len * e1 + arr.toList.length ≤ c0.size := by omega
                      have hst2 := run_storeCells (P := P) r1 (o := s0 + o + len * e1) (vs := arr.toList) hfit harr1
                      have hrun := run_room (P := P) (w := w) (type := type) hst hxt hs (base := some ⟨r, s0 + o, none⟩) (len := len) (cap := cap') (w2 := setRow w r (.cells (spliceA c0 (s0 + o + len * e1) arr.toList) e0 (0, 0))) hln hfc hroom (by simp only [add_off]; exact hst2)
                      have hlen2 : (old ++ new).length = len * e1 + n * e1 := by rw [List.length_append, q3, hnl]
                      obtain ⟨a1, a2⟩ := hI.grow (new := old ++ new) (fl' := if o + len * e1 = cs.length then fl else h.n) (off := o) hlo hρ hg hcl hfl.1 r1 (spliceA_size arr.toList c0 (s0 + o + len * e1)) (by
                        by_cases hend : o + len * e1 = cs.length
                        · left
                          rw [if_pos hend]
                          refine ⟨rfl, by omega, fun j hj => ?_⟩
                          rw [spliceA_get _ _ _ hfit, if_neg (by omega)]
                        · right; rw [if_neg hend]) (by omega) (fun i hi => by
                        rw [hlen2] at hi
                        rw [spliceA_get _ _ _ hfit]
                        simp only [List.getD_eq_getElem?_getD]
                        by_cases hi1 : i < len * e1
                        · rw [List.getElem?_append_left (by omega), if_neg (by omega)]
                          have h5 : old.getD i undef = cs.getD (o + i) undef := by
                            unfold Heap.rd at hold
                            rw [hfl.2] at hold
                            simp only at hold
                            rw [if_pos hcs] at hold
                            cases hold
                            exact getD_drop_take _ _ _ _ hi1
                          rw [List.getD_eq_getElem?_getD] at h5
                          rw [h5]
                          have := r4 (o + i) (by omega)
                          rw [← Nat.add_assoc] at this
                          exact this
                        · rw [List.getElem?_append_right (by omega), q3, if_pos (by omega)]
                          have h6 : s0 + o + i - (s0 + o + len * e1) = i - len * e1 := by omega
                          rw [h6]
                          have := hva.2 (i - len * e1) (by omega)
                          simp only [List.getD_eq_getElem?_getD] at this
                          refine ⟨this, h1n _ ?_⟩
                          rw [List.getElem?_eq_getElem (by omega)]
                          simp)
                      refine good_v hrun a1 a2 ?_
                      have hsz2 : rowSize (setRow w r (.cells (spliceA c0 (s0 + o + len * e1) arr.toList) e0 (0, 0))) r = c0.size := by
                        rw [rowSize_setRow r1 (spliceA_size _ _ _)]; unfold rowSize; rw [r1]
                      have := VR.sli (w := setRow w r (.cells (spliceA c0 (s0 + o + len * e1) arr.toList) e0 (0, 0))) h.n r (s0 + o) 0 (len + n) (len + n) cap' e1 (rho_new ρ h.n r (s0 + o)) hroom (by rw [hsz2]; omega)
                      simpa using this
                    · exact realloc _ cap' rfl (by omega) ⟨l', q2, hl'sz, q4, hfo⟩
                  | slz _ _ _ r s0 o' hρ =>
                    have hl0 : old = [] := by
                      unfold Heap.rd at hold
                      split at hold
                      · split at hold
                        · cases hold; simp
                        · cases hold
                      · cases hold
                    subst hl0
                    exact realloc _ 0 rfl (by omega) ⟨#[], .nil _ _, by simp, fun y hy => absurd hy (by simp), fun w' _ => by simp [Builtin.firstCells, loadCells, loadCellsFrom]⟩
                · cases hx
              · cases hx
            · cases hx
      · cases hx
  · cases hx
end
end Go.Proofs.Ytbjgnogcjglcoaa.Hm
