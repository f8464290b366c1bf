/- H's memory when the library has written a row anew (as its sorting functions say it). -/
import Derived.Test.YtbjgnogcjglcoaaA4
import Derived.Sort.Row
import Derived.Sort.Grow
namespace Go.Proofs.Ytbjgnogcjglcoaa.Hm
open Go
set_option linter.all false
theorem putCells_splice {c : Array Value} {o : Nat} {F : Array Value} (h : o + F.size ≤ c.size) : Sort.putCells id o F c = spliceA c o F.toList := by
  apply Array.ext
  · rw [spliceA_size]; simp [Sort.putCells]
  · intro i h1 h2
    have hi : i < c.size := by rw [spliceA_size] at h2; exact h2
    have e := spliceA_get F.toList c o (by simpa using h) i
    have e2 : (spliceA c o F.toList)[i] = (spliceA c o F.toList).getD i undef := by simp [Array.getD_eq_getD_getElem?, h2]
    rw [e2, e]
    unfold Sort.putCells
    simp only [Array.getElem_mapIdx, id, Array.length_toList]
    split
    · rename_i hc
      have : i - o < F.size := by omega
      rw [getElem!_pos F (i - o) this, List.getD_eq_getElem?_getD, List.getElem?_eq_getElem (by simpa using this)]
      simp
    · simp [Array.getD_eq_getD_getElem?, hi]
variable {lo n0 : Nat} {w0 : World} {ρ : Rho} {h : Heap} {w : World}
theorem inv_putRow (P : Program) (hI : Inv lo n0 w0 ρ h w) {b r s o n : Nat} {F : Array Value} {h' : Heap} (os : Array Obj) (hb : ρ b = some (r, s)) (hw : h.wr lo b o F.toList = some h') (hv : VRl ρ w F.toList F.toList) (h1 : ∀ v ∈ F.toList, cell1 v = true) :
    Inv lo n0 w0 ρ h' (Sort.grow (Sort.putRow id (Sort.ahead w n) r (s + o) F) os) ∧ Ext ρ ρ h h' w (Sort.grow (Sort.putRow id (Sort.ahead w n) r (s + o) F) os) := by
  obtain ⟨w1, k1, k2, k3⟩ := hI.wr (P := P) hb hw hv h1 h1
  have hw2 := hw
  unfold Heap.wr at hw2
  split at hw2
  · rename_i cs hc
    split at hw2
    · rename_i hle
      obtain ⟨hlo, _⟩ := put_spec hc hw2
      obtain ⟨c, e, fz, m1, m2, m3, m4⟩ := hI.row b r s cs hb hc
      obtain rfl := m2 hlo
      have hfit : s + o + F.toList.length ≤ c.size := by omega
      have hrun := run_storeCells (P := P) m1 hfit h1
      rw [hrun] at k1
      obtain rfl : setRow w r (.cells (spliceA c (s + o) F.toList) e (0, 0)) = w1 := by injection k1
      have hr : r < w.heap.size := (hI.dom b r s hb).2
      have hheap : (Sort.putRow id (Sort.ahead w n) r (s + o) F).heap = (setRow w r (.cells (spliceA c (s + o) F.toList) e (0, 0))).heap := by
        apply Array.ext_getElem?
        intro k
        rw [setRow_get]
        show (w.heap.modify r (Sort.onCells (Sort.putCells id (s + o) F)))[k]? = _
        rw [Array.getElem?_modify]
        by_cases hk : r = k
        · subst hk
          rw [if_pos rfl, if_pos ⟨rfl, hr⟩, m1, ← putCells_splice (by simpa using hfit)]
          rfl
        · rw [if_neg hk, if_neg (fun hh => hk hh.1.symm)]
      have hsz : (setRow w r (.cells (spliceA c (s + o) F.toList) e (0, 0))).heap.size = w.heap.size := by simp [setRow]
      have hget : ∀ k, k < w.heap.size → (Sort.grow (Sort.putRow id (Sort.ahead w n) r (s + o) F) os).heap[k]? = (setRow w r (.cells (spliceA c (s + o) F.toList) e (0, 0))).heap[k]? := by
        intro k hk
        show ((Sort.putRow id (Sort.ahead w n) r (s + o) F).heap ++ os)[k]? = _
        rw [hheap, Array.getElem?_append_left (by rw [hsz]; exact hk)]
      have hrs : ∀ k, rowSize (setRow w r (.cells (spliceA c (s + o) F.toList) e (0, 0))) k ≤ rowSize (Sort.grow (Sort.putRow id (Sort.ahead w n) r (s + o) F) os) k := by
        intro k
        unfold rowSize
        rcases Nat.lt_or_ge k w.heap.size with hk | hk
        · rw [hget k hk]; exact Nat.le_refl _
        · rw [Array.getElem?_eq_none (by rw [hsz]; exact hk)]; exact Nat.zero_le _
      have hn0 : n0 ≤ w.heap.size := Nat.le_trans hI.n0le hI.below.size
      have hbel : RowKit.Below n0 (setRow w r (.cells (spliceA c (s + o) F.toList) e (0, 0))) (Sort.grow (Sort.putRow id (Sort.ahead w n) r (s + o) F) os) :=
        ⟨rfl, rfl, rfl, by show _ ≤ ((Sort.putRow id (Sort.ahead w n) r (s + o) F).heap ++ os).size; rw [Array.size_append, hheap]; omega, fun k hk => hget k (by omega)⟩
      refine ⟨k2.world hbel (fun b' r' s' hb' => hget r' (by have := (k2.dom b' r' s' hb').2; rw [hsz] at this; exact this)) hrs, k3.le, fun k => Nat.le_trans (k3.sz k) (hrs k), k3.n, k3.keep⟩
    · cases hw2
  · cases hw2
end Go.Proofs.Ytbjgnogcjglcoaa.Hm
