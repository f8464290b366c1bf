/- The relation between H's heap and the machine's memory goes on where a row is written, grown in place, or a map is written. -/
import Derived.Test.YtbjgnogcjglcoaaHI
namespace Go.Proofs.Ytbjgnogcjglcoaa.Hm
open Go Go.RowKit
set_option linter.all false
set_option linter.unusedSimpArgs false

/-- Another content of one block. -/
def setRow (w : World) (r : Nat) (o : Obj) : World := { w with heap := w.heap.setIfInBounds r o }
theorem setRow_get (w : World) (r : Nat) (o : Obj) (k : Nat) : (setRow w r o).heap[k]? = if k = r ∧ r < w.heap.size then some o else w.heap[k]? := by
  show (w.heap.setIfInBounds r o)[k]? = _
  rw [Array.getElem?_setIfInBounds]
  by_cases e : r = k
  · subst e
    by_cases hlt : r < w.heap.size
    · simp [hlt]
    · simp [hlt]
  · have e' : ¬ k = r := fun h => e h.symm
    simp [e, e']
theorem setRow_setRow (w : World) (r : Nat) (o o' : Obj) : setRow (setRow w r o) r o' = setRow w r o' := by
  simp [setRow, Array.setIfInBounds_setIfInBounds]
theorem setRow_size (w : World) (r : Nat) (o : Obj) : (setRow w r o).heap.size = w.heap.size := by simp [setRow]
theorem lt_of_get {w : World} {r : Nat} {o : Obj} (h : w.heap[r]? = some o) : r < w.heap.size := by
  rcases Nat.lt_or_ge r w.heap.size with h' | h'
  · exact h'
  · rw [Array.getElem?_eq_none h'] at h; cases h
theorem setRow_self {w : World} {r : Nat} {o : Obj} (h : w.heap[r]? = some o) : setRow w r o = w := by
  unfold setRow
  congr 1
  apply Array.ext_getElem?
  intro i
  rw [Array.getElem?_setIfInBounds]
  split
  · rename_i e; subst e; rw [h, if_pos (lt_of_get h)]
  · rfl
theorem setCell_eq {w : World} {r o : Nat} {c : Array Value} {e : TypeId} {fz : Nat × Nat} (h : w.heap[r]? = some (.cells c e fz)) (v : Value) :
    w.setCell ⟨r, o, none⟩ v = setRow w r (.cells (c.setIfInBounds o v) e fz) := by
  unfold World.setCell setRow
  congr 1
  apply Array.ext_getElem?
  intro i
  rw [Array.getElem?_modify, Array.getElem?_setIfInBounds]
  by_cases ei : r = i
  · subst ei
    rw [if_pos rfl, if_pos rfl, h, if_pos (lt_of_get h)]
    rfl
  · rw [if_neg ei, if_neg ei]
theorem below_setRow {n0 : Nat} {w : World} {r : Nat} (h : n0 ≤ r) (o : Obj) : Below n0 w (setRow w r o) :=
  ⟨rfl, rfl, rfl, by simp [setRow], fun k hk => by rw [setRow_get, if_neg (by omega)]⟩
theorem rowSize_setRow {w : World} {r : Nat} {c c' : Array Value} {e e' : TypeId} {fz fz' : Nat × Nat} (h : w.heap[r]? = some (.cells c e fz)) (hs : c'.size = c.size) (k : Nat) :
    rowSize (setRow w r (.cells c' e' fz')) k = rowSize w k := by
  unfold rowSize
  rw [setRow_get]
  by_cases ek : k = r
  · subst ek; rw [if_pos ⟨rfl, lt_of_get h⟩, h]; exact hs
  · simp [ek]
theorem rowSize_setMap {w : World} {r : Nat} {es es' : Array MapEntry} {t t' : Nat} (h : w.heap[r]? = some (.map es t)) (k : Nat) :
    rowSize (setRow w r (.map es' t')) k = rowSize w k := by
  unfold rowSize
  rw [setRow_get]
  by_cases ek : k = r
  · subst ek; rw [if_pos ⟨rfl, lt_of_get h⟩, h]
  · simp [ek]
section
variable {lo n0 : Nat} {w0 : World} {ρ : Rho} {h : Heap} {w : World}
theorem put_spec {lo : Nat} {h h' : Heap} {b : Nat} {cs cs' : List Value} (hc : h.cells b = some cs) (hp : h.put lo b cs' = some h') : lo ≤ b ∧
    ((h.get b = some (.row cs none) ∧ h' = h.setB b (.row cs' none)) ∨ ∃ c fl, h.get b = some (.row cs (some c)) ∧ h.cl c = some (b, fl) ∧ fl ≤ b ∧ h' = (h.setB b (.row cs' (some c))).setC c (b, b)) := by
  unfold Heap.put at hp
  split at hp
  · cases hp
  · rename_i hlo
    refine ⟨Nat.le_of_not_lt hlo, ?_⟩
    rcases Heap.cells_some hc with hg | ⟨c, tip, fl, hg, hcl, hle⟩
    · rw [hg] at hp; cases hp; exact .inl ⟨hg, rfl⟩
    · rw [hg] at hp
      simp only [hcl] at hp
      split at hp
      · rename_i e; subst e; cases hp; exact .inr ⟨c, fl, hg, hcl, hle, rfl⟩
      · cases hp
theorem Inv.put (hI : Inv lo n0 w0 ρ h w) {b r s : Nat} {cs cs' : List Value} {h' : Heap} (hb : ρ b = some (r, s)) (hc : h.cells b = some cs) (hp : h.put lo b cs' = some h') (hl : cs'.length = cs.length)
    {c c' : Array Value} {e : TypeId} {fz : Nat × Nat} (hr : w.heap[r]? = some (.cells c e fz)) (hs : c'.size = c.size)
    (hv : ∀ i, i < cs'.length → VR ρ w (cs'.getD i undef) (c'.getD (s + i) undef) ∧ cell1 (cs'.getD i undef) = true) :
    Inv lo n0 w0 ρ h' (setRow w r (.cells c' e fz)) ∧ Ext ρ ρ h h' w (setRow w r (.cells c' e fz)) := by
  obtain ⟨hlo, hcase⟩ := put_spec hc hp
  have hsz : ∀ k, rowSize w k ≤ rowSize (setRow w r (.cells c' e fz)) k := fun k => Nat.le_of_eq (rowSize_setRow hr hs k).symm
  have hid : ∀ (b : Nat) x, ρ b = some x → ρ b = some x := fun _ _ x => x
  have hn0 : n0 ≤ r := hI.new b r s hb hlo
  have hrlt := lt_of_get hr
  -- the row itself, and every other block
  obtain ⟨k, hget, hgb, hcl⟩ : ∃ k : Option Nat, (h.get b = some (.row cs k)) ∧ (∀ b', h'.get b' = if b' = b then some (.row cs' k) else h.get b') ∧
      (∀ c, (h'.cl c = h.cl c ∧ (k = some c → ∃ fl, h.cl c = some (b, fl) ∧ fl ≤ b ∧ False ∨ True)) ∨ (k = some c ∧ ∃ fl, h.cl c = some (b, fl) ∧ fl ≤ b ∧ h'.cl c = some (b, b))) := by
    rcases hcase with ⟨hg, rfl⟩ | ⟨c1, fl, hg, hcl, hle, rfl⟩
    · exact ⟨none, hg, fun b' => Heap.get_setB hg _ b', fun c => .inl ⟨Heap.cl_setB _ _ _ _, fun e => by cases e⟩⟩
    · refine ⟨some c1, hg, fun b' => by rw [Heap.get_setC]; exact Heap.get_setB hg _ b', fun c => ?_⟩
      have := Heap.cl_setC (h := h.setB b (.row cs' (some c1))) (c := c1) (y := (b, fl)) (by rw [Heap.cl_setB]; exact hcl) (b, b) c
      by_cases ec : c = c1
      · subst ec; right; exact ⟨rfl, fl, hcl, hle, by rw [this]; simp⟩
      · left; exact ⟨by rw [this, if_neg ec, Heap.cl_setB], fun _ => ⟨0, .inr trivial⟩⟩
  have hn : h'.n = h.n := by rcases hcase with ⟨_, rfl⟩ | ⟨_, _, _, _, _, rfl⟩ <;> rfl
  -- what of the others can still be read could be read before
  have hother : ∀ b' cs2, b' ≠ b → h'.cells b' = some cs2 → h.cells b' = some cs2 ∧ ∀ c2 cs3, h.get b' = some (.row cs3 (some c2)) → k ≠ some c2 := by
    intro b' cs2 hne h2
    have hg2 := hgb b'
    rw [if_neg hne] at hg2
    rcases Heap.cells_some h2 with hg | ⟨c2, t, fl, hg, hc2, hle⟩
    · rw [hg2] at hg
      refine ⟨by unfold Heap.cells; rw [hg], fun c2 cs3 h3 => by rw [hg] at h3; cases h3⟩
    · rw [hg2] at hg
      rcases hcl c2 with ⟨e1, _⟩ | ⟨e1, fl', e2, e3, e4⟩
      · refine ⟨by unfold Heap.cells; rw [hg]; simp only [← e1, hc2]; rw [if_pos hle], fun c3 cs3 h3 e5 => ?_⟩
        rw [hg] at h3; cases h3
        rcases hcase with ⟨hgx, _⟩ | ⟨c1, fl1, hgx, hclx, hlex, hh'⟩
        · rw [hget] at hgx; cases hgx; cases e5
        · rw [hget] at hgx; cases hgx; cases e5
          have : h'.cl c2 = some (b, b) := by
            rw [hh', Heap.cl_setC (y := (b, fl1)) (by rw [Heap.cl_setB]; exact hclx)]; simp
          rw [hc2] at this; cases this
          have h5 := hI.clt b' cs2 c2 b fl1 hg hclx
          omega
      · rw [e4] at hc2; cases hc2
        have h5 := hI.clt b' cs2 c2 b fl' hg e2
        omega
  have hlive : ∀ b', h'.live b' → h.live b' := by
    rintro b' (⟨cs2, h2⟩ | ⟨es, t, h2⟩)
    · by_cases eb : b' = b
      · subst eb; exact .inl ⟨cs, hc⟩
      · exact .inl ⟨cs2, (hother b' cs2 eb h2).1⟩
    · rw [hgb] at h2
      split at h2
      · cases h2
      · exact .inr ⟨es, t, h2⟩
  have hlive2 : ∀ b' cs3 c2, h'.live b' → b' ≠ b → h.get b' = some (.row cs3 (some c2)) → k ≠ some c2 := by
    rintro b' cs3 c2 (⟨cs2, h2⟩ | ⟨es, t, h2⟩) hne hg3
    · exact (hother b' cs2 hne h2).2 c2 cs3 hg3
    · rw [hgb, if_neg hne, hg3] at h2; cases h2
  have hheap : ∀ b' r' s', ρ b' = some (r', s') → b' ≠ b → h'.live b' → r' ≠ r := by
    intro b' r' s' e' hne hl er
    subst er
    obtain ⟨c2, cs2, cs3, h1, h2⟩ := hI.sep b b' r' s s' hb e' (fun x => hne x.symm) (.inl hlo) (.inl ⟨cs, hc⟩) (hlive b' hl)
    rw [hget] at h1; cases h1
    exact hlive2 b' cs3 c2 hl hne h2 rfl
  refine ⟨⟨hI.below.trans (below_setRow hn0 _), hI.n0le, hn ▸ hI.lon, fun b' r' s' e' => ⟨hn ▸ (hI.dom b' r' s' e').1, by rw [setRow_size]; exact (hI.dom b' r' s' e').2⟩, hI.new, fun b' r' s' cs2 e' hc2 => ?_, fun b' r' s' es t e' hg2 => ?_,
    fun b1 b2 r' s1 s2 e1 e2 hne hlo2 hl1 hl2 => ?_, fun b1 b2 c1 cs1 cs2 fl r' s1 s2 hg1 hc1 e1 e2 hg2 hle => ?_, fun b1 cs1 c1 t fl hg1 hc1 => ?_, fun b1 cs1 c1 hg1 => ?_⟩, ⟨hid, hsz, Nat.le_of_eq hn.symm, fun x hx ex => ⟨ex, by rw [hgb, if_neg (fun e => by rw [e, hb] at ex; cases ex)]⟩⟩⟩
  · by_cases eb : b' = b
    · subst eb
      rw [hb] at e'; cases e'
      have hcs2 : cs2 = cs' := by
        rcases Heap.cells_some hc2 with hg | ⟨_, _, _, hg, _⟩ <;> (rw [hgb, if_pos rfl] at hg; cases hg; rfl)
      subst hcs2
      obtain ⟨c0, e0, fz0, h1, h2, h3, h4⟩ := hI.row b' r s cs hb hc
      rw [hr] at h1; cases h1
      exact ⟨c', e, fz, by rw [setRow_get]; simp [hrlt], h2, by rw [hs, hl]; exact h3, fun i hi => ⟨(hv i hi).1.mono hid hsz, (hv i hi).2⟩⟩
    · obtain ⟨c0, e0, fz0, h1, h2, h3, h4⟩ := hI.row b' r' s' cs2 e' (hother b' cs2 eb hc2).1
      refine ⟨c0, e0, fz0, ?_, h2, h3, fun i hi => ⟨(h4 i hi).1.mono hid hsz, (h4 i hi).2⟩⟩
      rw [setRow_get, if_neg (fun x => hheap b' r' s' e' eb (.inl ⟨cs2, hc2⟩) x.1)]; exact h1
  · have eb : b' ≠ b := fun eb => by rw [hgb, if_pos eb] at hg2; cases hg2
    have hg3 := hg2
    rw [hgb, if_neg eb] at hg3
    obtain ⟨es', h1, h2, h3⟩ := hI.map b' r' s' es t e' hg3
    refine ⟨es', ?_, h2, fun i k v a hi => ?_⟩
    · rw [setRow_get, if_neg (fun x => hheap b' r' s' e' eb (.inr ⟨es, t, hg2⟩) x.1)]; exact h1
    · obtain ⟨x, x1, x2, x3, x4⟩ := h3 i k v a hi
      exact ⟨x, x1, x2.mono hid hsz, x3.mono hid hsz, x4⟩
  · obtain ⟨c2, cs1, cs2, h1, h2⟩ := hI.sep b1 b2 r' s1 s2 e1 e2 hne hlo2 (hlive b1 hl1) (hlive b2 hl2)
    have key : ∀ bx csx, h.get bx = some (.row csx (some c2)) → ∃ csy, h'.get bx = some (.row csy (some c2)) := by
      intro bx csx hx
      rw [hgb]
      split
      · rename_i eb; subst eb; rw [hget] at hx; cases hx; exact ⟨cs', rfl⟩
      · exact ⟨csx, hx⟩
    obtain ⟨y1, k1⟩ := key b1 cs1 h1
    obtain ⟨y2, k2⟩ := key b2 cs2 h2
    exact ⟨c2, y1, y2, k1, k2⟩
  · have old : ∀ bx csx cx, h'.get bx = some (.row csx (some cx)) → ∃ csy, h.get bx = some (.row csy (some cx)) ∧ csy.length = csx.length := by
      intro bx csx cx hx
      rw [hgb] at hx
      split at hx
      · rename_i eb; subst eb; cases hx; exact ⟨cs, hget, hl.symm⟩
      · exact ⟨csx, hx, rfl⟩
    obtain ⟨y1, k1, l1⟩ := old b1 cs1 c1 hg1
    obtain ⟨y2, k2, l2⟩ := old b2 cs2 c1 hg2
    rw [← l1, ← l2]
    rcases hcl c1 with ⟨e3, _⟩ | ⟨e3, fl', e4, e5, e6⟩
    · exact hI.tip b1 b2 c1 y1 y2 fl r' s1 s2 k1 (e3 ▸ hc1) e1 e2 k2 hle
    · rw [e6] at hc1; cases hc1
      exact hI.tip b b2 c1 y1 y2 fl' r' s1 s2 k1 e4 e1 e2 k2 (Nat.le_trans e5 hle)
  · have old : ∃ csy, h.get b1 = some (.row csy (some c1)) := by
      rw [hgb] at hg1
      split at hg1
      · rename_i eb; subst eb; cases hg1; exact ⟨cs, hget⟩
      · exact ⟨cs1, hg1⟩
    obtain ⟨y1, k1⟩ := old
    rcases hcl c1 with ⟨e3, _⟩ | ⟨e3, fl', e4, e5, e6⟩
    · exact hI.clt b1 y1 c1 t fl k1 (e3 ▸ hc1)
    · rw [e6] at hc1; cases hc1; exact hI.clt b1 y1 c1 b fl' k1 e4
  · have old : ∃ csy, h.get b1 = some (.row csy (some c1)) := by
      rw [hgb] at hg1
      split at hg1
      · rename_i eb; subst eb; cases hg1; exact ⟨cs, hget⟩
      · exact ⟨cs1, hg1⟩
    obtain ⟨y1, k1⟩ := old
    obtain ⟨y, hy⟩ := hI.clm b1 y1 c1 k1
    rcases hcl c1 with ⟨e3, _⟩ | ⟨e3, fl', e4, e5, e6⟩
    · exact ⟨y, e3.trans hy⟩
    · exact ⟨_, e6⟩
end
end Go.Proofs.Ytbjgnogcjglcoaa.Hm
