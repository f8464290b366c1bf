/- The machine's own steps on memory, run beside H's: reading and writing of cells, the tables of types. -/
import Derived.Test.YtbjgnogcjglcoaaHK
import Derived.Test.YtbjgnogcjglcoaaHC
namespace Go.Proofs.Ytbjgnogcjglcoaa.Hm
open Go Go.RowKit
set_option linter.all false
set_option linter.unusedSimpArgs false
section
variable {P : Program} {t : TypeId} {w : World}
theorem run_under {d : TypeDesc} (h : P.underlying t = some d) : (underlying t).run P w = .ok d w := by
  simp [underlying, program, h, Sem.run]
theorem run_info {i : TypeInfo} (h : P.info? t = some i) : (typeInfo t).run P w = .ok i w := by
  simp [typeInfo, program, h, Sem.run]
theorem run_size {n : Nat} (h : sizeT P t = some n) : (sizeOf t).run P w = .ok n w := by
  unfold sizeT at h
  obtain ⟨i, hi, rfl⟩ := Option.map_eq_some_iff.1 h
  simp [sizeOf, run_info hi]
theorem run_bytes {n : Nat} (h : bytesT P t = some n) : ∃ i, (typeInfo t).run P w = .ok i w ∧ i.bytes = n := by
  unfold bytesT at h
  obtain ⟨i, hi, rfl⟩ := Option.map_eq_some_iff.1 h
  exact ⟨i, run_info hi, rfl⟩
theorem run_zero {z : Value} (h : zeroT P t = some z) : (zeroValue t).run P w = .ok z w := by
  unfold zeroT at h
  obtain ⟨i, hi, hz⟩ := Option.bind_eq_some_iff.1 h
  simp [zeroValue, run_info hi, hz]
theorem run_agg {g : Option Nat} (h : aggT P t = some g) : (isAgg t).run P w = .ok g.isSome w := by
  unfold aggT at h
  split at h
  · obtain ⟨n, hn, rfl⟩ := Option.map_eq_some_iff.1 h; simp [isAgg, run_under (by assumption : P.underlying t = _)]
  · obtain ⟨n, hn, rfl⟩ := Option.map_eq_some_iff.1 h; simp [isAgg, run_under (by assumption : P.underlying t = _)]
  · rename_i d h1 h2 hd
    cases h
    cases d <;> first | exact absurd rfl (h1 _) | exact absurd rfl (h2 _ _) | simp [isAgg, run_under hd]
  · cases h
theorem agg_size {n : Nat} (h : aggT P t = some (some n)) : sizeT P t = some n := by
  unfold aggT at h
  split at h
  · obtain ⟨m, hn, e⟩ := Option.map_eq_some_iff.1 h; cases e; exact hn
  · obtain ⟨m, hn, e⟩ := Option.map_eq_some_iff.1 h; cases e; exact hn
  · cases h
  · cases h
end
theorem add_off (r o i : Nat) : (⟨r, o, none⟩ : Addr).add i = ⟨r, o + i, none⟩ := by
  unfold Addr.add; split
  · rename_i e; subst e; rfl
  · rfl
section
variable {P : Program} {w : World} {r : Nat} {c : Array Value} {e : TypeId} {fz : Nat × Nat}
theorem cell_at (hr : w.heap[r]? = some (.cells c e fz)) (o : Nat) : w.cell? ⟨r, o, none⟩ = c[o]? := by simp [World.cell?, hr]
theorem run_load1 (hr : w.heap[r]? = some (.cells c e fz)) {o : Nat} (ho : o < c.size) : (load ⟨r, o, none⟩).run P w = .ok (c.getD o undef) w := by
  rw [run_load, cell_at hr]
  simp [Array.getElem?_eq_getElem ho, Array.getD_eq_getD_getElem?]
theorem run_loadFrom (hr : w.heap[r]? = some (.cells c e fz)) (o : Nat) : ∀ (n i : Nat) (acc : Array Value), o + i + n ≤ c.size →
    ∃ l, (loadCellsFrom ⟨r, o, none⟩ i n acc).run P w = .ok l w ∧ l.toList = acc.toList ++ (c.toList.drop (o + i)).take n
  | 0, i, acc, h => ⟨acc, by simp [loadCellsFrom], by simp⟩
  | n + 1, i, acc, h => by
    obtain ⟨l, h1, h2⟩ := run_loadFrom hr o n (i + 1) (acc.push (c.getD (o + i) undef)) (by omega)
    refine ⟨l, ?_, ?_⟩
    · rw [loadCellsFrom, Sem.run_bind, add_off, run_load1 hr (by omega)]
      exact h1
    · rw [h2]
      have hlt : o + i < c.toList.length := by simp; omega
      rw [List.drop_eq_getElem_cons hlt, List.take_succ_cons, Array.toList_push, List.append_assoc]
      congr 1
      simp [Array.getD_eq_getD_getElem?, Array.getElem?_eq_getElem (show o + i < c.size by omega), Nat.add_assoc]
theorem run_loadCells (hr : w.heap[r]? = some (.cells c e fz)) {o n : Nat} (h : o + n ≤ c.size) : ∃ l, (loadCells ⟨r, o, none⟩ n).run P w = .ok l w ∧ l.toList = (c.toList.drop o).take n := by
  obtain ⟨l, h1, h2⟩ := run_loadFrom (P := P) hr o n 0 #[] (by omega)
  exact ⟨l, h1, by simpa using h2⟩
/-- Values written one behind the other. -/
def spliceA : Array Value → Nat → List Value → Array Value
  | c, _, [] => c
  | c, o, v :: vs => spliceA (c.setIfInBounds o v) (o + 1) vs
theorem spliceA_size : ∀ (vs : List Value) (c : Array Value) (o : Nat), (spliceA c o vs).size = c.size
  | [], c, o => rfl
  | v :: vs, c, o => by rw [spliceA, spliceA_size vs]; simp
theorem spliceA_get : ∀ (vs : List Value) (c : Array Value) (o : Nat), o + vs.length ≤ c.size → ∀ j, (spliceA c o vs).getD j undef = if o ≤ j ∧ j < o + vs.length then vs.getD (j - o) undef else c.getD j undef
  | [], c, o, _, j => by simp [spliceA]; omega
  | v :: vs, c, o, h, j => by
    simp only [List.length_cons] at h
    rw [spliceA, spliceA_get vs _ _ (by simp; omega)]
    by_cases h1 : o + 1 ≤ j ∧ j < o + 1 + vs.length
    · rw [if_pos h1, if_pos (by simp; omega)]
      obtain ⟨k, rfl⟩ : ∃ k, j = o + 1 + k := ⟨j - (o + 1), by omega⟩
      have e1 : o + 1 + k - (o + 1) = k := by omega
      have e2 : o + 1 + k - o = k + 1 := by omega
      rw [e1, e2]; rfl
    · rw [if_neg h1]
      by_cases h2 : j = o
      · subst h2
        rw [if_pos (by simp)]
        simp [Array.getD_eq_getD_getElem?, Array.getElem?_setIfInBounds, show j < c.size by omega]
      · rw [if_neg (by simp; omega)]
        simp [Array.getD_eq_getD_getElem?, Array.getElem?_setIfInBounds_ne (show o ≠ j from fun z => h2 z.symm)]
theorem run_store1 (hr : w.heap[r]? = some (.cells c e (0, 0))) {o : Nat} (ho : o < c.size) {v : Value} (hv : cell1 v = true) :
    (store ⟨r, o, none⟩ v).run P w = .ok () (setRow w r (.cells (c.setIfInBounds o v) e (0, 0))) := by
  have hf : w.frozen? ⟨r, o, none⟩ = false := by simp [World.frozen?, hr]
  have hc : w.cell? ⟨r, o, none⟩ = some c[o] := by rw [cell_at hr, Array.getElem?_eq_getElem ho]
  unfold store
  cases v <;> first | (cases hv; done) | (simp only [Sem.run, hc, hf, setCell_eq hr]; rfl)
theorem run_storeFrom (o : Nat) : ∀ (vs : List Value) (i : Nat) (w : World) (c : Array Value), w.heap[r]? = some (.cells c e (0, 0)) → o + i + vs.length ≤ c.size → (∀ v ∈ vs, cell1 v = true) →
    (storeCells ⟨r, o, none⟩ vs i).run P w = .ok () (setRow w r (.cells (spliceA c (o + i) vs) e (0, 0)))
  | [], i, w, c, hr, h, hv => by simp [storeCells, spliceA, setRow_self hr]
  | v :: vs, i, w, c, hr, h, hv => by
    simp only [List.length_cons] at h
    rw [storeCells, Sem.run_bind, add_off, run_store1 hr (by omega) (hv v (by simp))]
    have hr2 : (setRow w r (.cells (c.setIfInBounds (o + i) v) e (0, 0))).heap[r]? = some (.cells (c.setIfInBounds (o + i) v) e (0, 0)) := by rw [setRow_get]; simp [lt_of_get hr]
    have := run_storeFrom o vs (i + 1) _ _ hr2 (by simp; omega) (fun x hx => hv x (by simp [hx]))
    simp only [Result.andThen_ok]
    rw [this, setRow_setRow, spliceA, Nat.add_assoc]
theorem run_storeCells (hr : w.heap[r]? = some (.cells c e (0, 0))) {o : Nat} {vs : List Value} (h : o + vs.length ≤ c.size) (hv : ∀ v ∈ vs, cell1 v = true) :
    (storeCells ⟨r, o, none⟩ vs).run P w = .ok () (setRow w r (.cells (spliceA c o vs) e (0, 0))) := run_storeFrom (P := P) o vs 0 w c hr (by omega) hv
end
section
variable {lo n0 : Nat} {w0 : World} {ρ : Rho} {h : Heap} {w : World} {P : Program}
theorem getD_drop_take (c : List Value) (o n i : Nat) (hi : i < n) : ((c.drop o).take n).getD i undef = c.getD (o + i) undef := by
  simp [List.getD_eq_getElem?_getD, List.getElem?_take, List.getElem?_drop, hi]
theorem getD_splice (cs vs : List Value) (o : Nat) (h : o + vs.length ≤ cs.length) (i : Nat) :
    (cs.take o ++ (vs ++ cs.drop (o + vs.length))).getD i undef = if o ≤ i ∧ i < o + vs.length then vs.getD (i - o) undef else cs.getD i undef := by
  have hl : (cs.take o).length = o := by simp; omega
  simp only [List.getD_eq_getElem?_getD]
  by_cases h1 : i < o
  · rw [List.getElem?_append_left (by omega), if_neg (by omega)]
    simp [List.getElem?_take, h1]
  · rw [List.getElem?_append_right (by omega), hl]
    by_cases h2 : i - o < vs.length
    · rw [List.getElem?_append_left h2, if_pos (by omega)]
    · rw [List.getElem?_append_right (by omega), if_neg (by omega), List.getElem?_drop]
      congr 2; omega
theorem Inv.rd (hI : Inv lo n0 w0 ρ h w) {b r s o n : Nat} {l : List Value} (hb : ρ b = some (r, s)) (hl : h.rd b o n = some l) :
    ∃ l', (loadCells ⟨r, s + o, none⟩ n).run P w = .ok l' w ∧ VRl ρ w l l'.toList ∧ l.length = n ∧ (∀ v ∈ l, cell1 v = true) ∧ s + o + n ≤ rowSize w r := by
  unfold Heap.rd at hl
  split at hl
  · rename_i cs hc
    split at hl
    · rename_i hle
      cases hl
      obtain ⟨c, e, fz, h1, h2, h3, h4⟩ := hI.row b r s cs hb hc
      obtain ⟨l', k1, k2⟩ := run_loadCells (P := P) h1 (o := s + o) (n := n) (by omega)
      have hlen : ((cs.drop o).take n).length = n := by simp; omega
      refine ⟨l', k1, ⟨by rw [k2]; simp; omega, fun i hi => ?_⟩, hlen, fun v hv => ?_, by unfold rowSize; rw [h1]; show s + o + n ≤ c.size; omega⟩
      · rw [hlen] at hi
        rw [k2, getD_drop_take _ _ _ _ hi, getD_drop_take _ _ _ _ hi]
        have := (h4 (o + i) (by omega)).1
        rw [getD_toList] at this
        rwa [Nat.add_assoc]
      · obtain ⟨i, hi, rfl⟩ := List.getElem_of_mem hv
        rw [hlen] at hi
        have := (h4 (o + i) (by omega)).2
        have e2 := getD_drop_take cs o n i hi
        rw [List.getD_eq_getElem?_getD, List.getElem?_eq_getElem (by omega)] at e2
        simp only [Option.getD_some] at e2
        rw [e2]; exact this
    · cases hl
  · cases hl
theorem Inv.rd1 (hI : Inv lo n0 w0 ρ h w) {b r s o : Nat} {v : Value} (hb : ρ b = some (r, s)) (hl : h.rd1 b o = some v) :
    ∃ v', (load ⟨r, s + o, none⟩).run P w = .ok v' w ∧ VR ρ w v v' ∧ cell1 v = true := by
  unfold Heap.rd1 at hl
  split at hl
  · rename_i cs hc
    obtain ⟨c, e, fz, h1, h2, h3, h4⟩ := hI.row b r s cs hb hc
    have ho : o < cs.length := by
      rcases Nat.lt_or_ge o cs.length with h | h
      · exact h
      · rw [List.getElem?_eq_none h] at hl; cases hl
    have hd : cs.getD o undef = v := by simp [List.getD_eq_getElem?_getD, hl]
    exact ⟨_, run_load1 (P := P) h1 (by omega), by have := (h4 o ho).1; rwa [hd] at this, by have := (h4 o ho).2; rwa [hd] at this⟩
  · cases hl
theorem Inv.wr (hI : Inv lo n0 w0 ρ h w) {b r s o : Nat} {vs vs' : List Value} {h' : Heap} (hb : ρ b = some (r, s)) (hw : h.wr lo b o vs = some h') (hv : VRl ρ w vs vs') (h1 : ∀ v ∈ vs, cell1 v = true) (h1' : ∀ v ∈ vs', cell1 v = true) :
    ∃ w', (storeCells ⟨r, s + o, none⟩ vs').run P w = .ok () w' ∧ Inv lo n0 w0 ρ h' w' ∧ Ext ρ ρ h h' w w' := by
  unfold Heap.wr at hw
  split at hw
  · rename_i cs hc
    split at hw
    · rename_i hle
      obtain ⟨hlo, hcase⟩ := put_spec hc hw
      obtain ⟨c, e, fz, k1, k2, k3, k4⟩ := hI.row b r s cs hb hc
      obtain rfl := k2 hlo
      have hlen : (cs.take o ++ (vs ++ cs.drop (o + vs.length))).length = cs.length := by simp; omega
      refine ⟨_, run_storeCells (P := P) k1 (by rw [← hv.1]; omega) h1', hI.put hb hc hw hlen k1 (spliceA_size _ _ _) fun i hi => ?_⟩
      rw [hlen] at hi
      rw [getD_splice _ _ _ hle, spliceA_get _ _ _ (by rw [← hv.1]; omega), ← hv.1]
      by_cases hin : o ≤ i ∧ i < o + vs.length
      · rw [if_pos hin, if_pos (by omega)]
        have e1 : s + i - (s + o) = i - o := by omega
        rw [e1]
        refine ⟨hv.2 _ (by omega), h1 _ ?_⟩
        rw [List.getD_eq_getElem?_getD, List.getElem?_eq_getElem (by omega)]
        simp
      · rw [if_neg hin, if_neg (by omega)]
        exact k4 i hi
    · cases hw
  · cases hw
end
end Go.Proofs.Ytbjgnogcjglcoaa.Hm
