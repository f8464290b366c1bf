/- The relation goes on where a row grows in its place, and where a map is written. -/
import Derived.Test.YtbjgnogcjglcoaaHJ
namespace Go.Proofs.Ytbjgnogcjglcoaa.Hm
open Go Go.RowKit
set_option linter.all false
set_option linter.unusedSimpArgs false
section
variable {lo n0 : Nat} {w0 : World} {ρ : Rho} {h : Heap} {w : World}
theorem Inv.grow (hI : Inv lo n0 w0 ρ h w) {b r s : Nat} {cs new : List Value} {cl fl fl' off : Nat} (hlo : lo ≤ b) (hb : ρ b = some (r, s)) (hg : h.get b = some (.row cs (some cl))) (hcl : h.cl cl = some (b, fl)) (hfl : fl ≤ b)
    {c c' : Array Value} {e : TypeId} (hr : w.heap[r]? = some (.cells c e (0, 0))) (hs : c'.size = c.size)
    (hend : (fl' = fl ∧ s + cs.length ≤ s + off + new.length ∧ ∀ j, j < s + cs.length → c'.getD j undef = c.getD j undef) ∨ fl' = h.n)
    (hsz' : s + off + new.length ≤ c.size)
    (hv : ∀ i, i < new.length → VR ρ w (new.getD i undef) (c'.getD (s + off + i) undef) ∧ cell1 (new.getD i undef) = true) :
    Inv lo n0 w0 (Rho.set ρ h.n r (s + off)) (h.extC cl fl' new) (setRow w r (.cells c' e (0, 0))) ∧ Ext ρ (Rho.set ρ h.n r (s + off)) h (h.extC cl fl' new) w (setRow w r (.cells c' e (0, 0))) := by
  have hsz : ∀ k, rowSize w k ≤ rowSize (setRow w r (.cells c' e (0, 0))) k := fun k => Nat.le_of_eq (rowSize_setRow hr hs k).symm
  have hnone : ρ h.n = none := by
    cases hx : ρ h.n with
    | none => rfl
    | some x => exact absurd (hI.dom h.n x.1 x.2 (by rw [hx])).1 (Nat.lt_irrefl _)
  have hle : ∀ x y, ρ x = some y → (Rho.set ρ h.n r (s + off)) x = some y := fun x y e => by
    unfold Rho.set; split
    · rename_i e'; rw [e', hnone] at e; cases e
    · exact e
  have hn0 : n0 ≤ r := hI.new b r s hb hlo
  have hrlt := lt_of_get hr
  have hblt := Heap.get_lt hg
  have hcb : h.cells b = some cs := by unfold Heap.cells; rw [hg]; simp only [hcl]; rw [if_pos hfl]
  have hget : ∀ x, (h.extC cl fl' new).get x = if x = h.n then some (.row new (some cl)) else h.get x := Heap.get_extC h cl fl' new
  have hcls : ∀ x, (h.extC cl fl' new).cl x = if x = cl then some (h.n, fl') else h.cl x := Heap.cl_extC hcl fl' new
  have hinv : ∀ x r' s', (Rho.set ρ h.n r (s + off)) x = some (r', s') → (x = h.n ∧ r' = r ∧ s' = s + off) ∨ (x ≠ h.n ∧ ρ x = some (r', s')) := fun x r' s' e => by
    unfold Rho.set at e; split at e
    · cases e; exact .inl ⟨by assumption, rfl, rfl⟩
    · exact .inr ⟨by assumption, e⟩
  -- what of the elder can still be read could be read before; if the class was closed, none of it
  have hother : ∀ x cs2, x ≠ h.n → (h.extC cl fl' new).cells x = some cs2 → h.cells x = some cs2 ∧ ((∃ cs3, h.get x = some (.row cs3 (some cl))) → fl' = fl) := by
    intro x cs2 hne h2
    rcases Heap.cells_some h2 with hg2 | ⟨c2, t, f2, hg2, hc2, hle2⟩ <;> rw [hget, if_neg hne] at hg2
    · exact ⟨by unfold Heap.cells; rw [hg2], fun ⟨cs3, h3⟩ => by rw [hg2] at h3; cases h3⟩
    · have hxlt := Heap.get_lt hg2
      rw [hcls] at hc2
      by_cases ec : c2 = cl
      · subst ec
        rw [if_pos rfl] at hc2; cases hc2
        rcases hend with ⟨h1, _⟩ | h1
        · subst h1
          exact ⟨by unfold Heap.cells; rw [hg2]; simp only [hcl]; rw [if_pos hle2], fun _ => rfl⟩
        · omega
      · rw [if_neg ec] at hc2
        exact ⟨by unfold Heap.cells; rw [hg2]; simp only [hc2]; rw [if_pos hle2], fun ⟨cs3, h3⟩ => by rw [hg2] at h3; cases h3; exact absurd rfl ec⟩
  have hlive : ∀ x, x ≠ h.n → (h.extC cl fl' new).live x → h.live x := by
    rintro x hne (⟨cs2, h2⟩ | ⟨es, t, h2⟩)
    · exact .inl ⟨cs2, (hother x cs2 hne h2).1⟩
    · rw [hget, if_neg hne] at h2; exact .inr ⟨es, t, h2⟩
  refine ⟨⟨hI.below.trans (below_setRow hn0 _), hI.n0le, by show lo ≤ h.n + 1; have := hI.lon; omega, fun x r' s' ex => ?_, fun x r' s' ex hx => ?_, fun x r' s' cs2 ex hc2 => ?_, fun x r' s' es t ex hg2 => ?_,
    fun b1 b2 r' s1 s2 e1 e2 hne hlo2 hl1 hl2 => ?_, fun b1 b2 c1 cs1 cs2 f1 r' s1 s2 hg1 hc1 e1 e2 hg2 hle' => ?_, fun b1 cs1 c1 t f1 hg1 hc1 => ?_, fun b1 cs1 c1 hg1 => ?_⟩, ⟨hle, hsz, by show h.n ≤ h.n + 1; omega, fun x hx ex => ?_⟩⟩
  · rcases hinv x r' s' ex with ⟨rfl, rfl, rfl⟩ | ⟨hne, ex⟩
    · exact ⟨by show h.n < h.n + 1; omega, by rw [setRow_size]; exact hrlt⟩
    · exact ⟨by show x < h.n + 1; have := (hI.dom x r' s' ex).1; omega, by rw [setRow_size]; exact (hI.dom x r' s' ex).2⟩
  · rcases hinv x r' s' ex with ⟨rfl, rfl, rfl⟩ | ⟨hne, ex⟩
    · exact hn0
    · exact hI.new x r' s' ex hx
  · rcases hinv x r' s' ex with ⟨rfl, rfl, rfl⟩ | ⟨hne, ex1⟩
    · have : cs2 = new := by
        rcases Heap.cells_some hc2 with hg2 | ⟨_, _, _, hg2, _⟩ <;> (rw [hget, if_pos rfl] at hg2; cases hg2 <;> rfl)
      subst this
      exact ⟨c', e, _, by rw [setRow_get]; simp [hrlt], fun _ => rfl, by rw [hs]; exact hsz', fun i hi => ⟨(hv i hi).1.mono hle hsz, (hv i hi).2⟩⟩
    · obtain ⟨hcx, hfx⟩ := hother x cs2 hne hc2
      obtain ⟨c0, e0, fz0, h1, h2, h3, h4⟩ := hI.row x r' s' cs2 ex1 hcx
      by_cases er : r' = r
      · subst er
        rw [hr] at h1; cases h1
        have hsame : fl' = fl ∧ s' + cs2.length ≤ s + cs.length := by
          by_cases exb : x = b
          · subst exb
            rw [hb] at ex1; cases ex1
            rw [hcb] at hcx; cases hcx
            exact ⟨hfx ⟨_, hg⟩, Nat.le_refl _⟩
          · obtain ⟨c2, y1, y2, k1, k2⟩ := hI.sep b x r' s s' hb ex1 (fun z => exb z.symm) (.inl hlo) (live_row hcb) (live_row hcx)
            rw [hg] at k1; cases k1
            have hf := hfx ⟨_, k2⟩
            refine ⟨hf, ?_⟩
            rcases Heap.cells_some hcx with hg3 | ⟨c3, t3, f3, hg3, hc3, hle3⟩
            · rw [hg3] at k2; cases k2
            · rw [hg3] at k2; cases k2
              rw [hcl] at hc3; cases hc3
              exact hI.tip b x cl cs cs2 fl r' s s' hg hcl hb ex1 hg3 hle3
        obtain ⟨hf, hw⟩ := hsame
        rcases hend with ⟨_, hb1, hb2⟩ | hf2
        · exact ⟨c', e, (0, 0), by rw [setRow_get]; simp [hrlt], h2, by rw [hs]; exact h3, fun i hi => ⟨by rw [hb2 _ (by omega)]; exact (h4 i hi).1.mono hle hsz, (h4 i hi).2⟩⟩
        · omega
      · exact ⟨c0, e0, fz0, by rw [setRow_get, if_neg (fun z => er z.1)]; exact h1, h2, h3, fun i hi => ⟨(h4 i hi).1.mono hle hsz, (h4 i hi).2⟩⟩
  · rcases hinv x r' s' ex with ⟨rfl, rfl, rfl⟩ | ⟨hne, ex⟩
    · rw [hget, if_pos rfl] at hg2; cases hg2
    · rw [hget, if_neg hne] at hg2
      obtain ⟨es', h1, h2, h3⟩ := hI.map x r' s' es t ex hg2
      refine ⟨es', ?_, h2, fun i k v a hi => ?_⟩
      · rw [setRow_get, if_neg (fun z => by rw [z.1, hr] at h1; cases h1)]; exact h1
      · obtain ⟨y, x1, x2, x3, x4⟩ := h3 i k v a hi
        exact ⟨y, x1, x2.mono hle hsz, x3.mono hle hsz, x4⟩
  · have mate : ∀ x sx, x ≠ h.n → ρ x = some (r, sx) → (h.extC cl fl' new).live x → ∃ y, h.get x = some (.row y (some cl)) := by
      intro x sx hne ex hl
      by_cases exb : x = b
      · subst exb; exact ⟨cs, hg⟩
      · obtain ⟨c2, y1, y2, k1, k2⟩ := hI.sep b x r s sx hb ex (fun z => exb z.symm) (.inl hlo) (live_row hcb) (hlive x hne hl)
        rw [hg] at k1; cases k1
        exact ⟨y2, k2⟩
    rcases hinv b1 r' s1 e1 with ⟨h1, h2, h3⟩ | ⟨hne1, e1'⟩ <;> rcases hinv b2 r' s2 e2 with ⟨h4, h5, h6⟩ | ⟨hne2, e2'⟩
    · exact absurd (h1.trans h4.symm) hne
    · subst h2
      obtain ⟨y, hy⟩ := mate b2 s2 hne2 e2' hl2
      exact ⟨cl, new, y, by rw [hget, if_pos h1], by rw [hget, if_neg hne2]; exact hy⟩
    · subst h5
      obtain ⟨y, hy⟩ := mate b1 s1 hne1 e1' hl1
      exact ⟨cl, y, new, by rw [hget, if_neg hne1]; exact hy, by rw [hget, if_pos h4]⟩
    · obtain ⟨c2, y1, y2, k1, k2⟩ := hI.sep b1 b2 r' s1 s2 e1' e2' hne hlo2 (hlive b1 hne1 hl1) (hlive b2 hne2 hl2)
      exact ⟨c2, y1, y2, by rw [hget, if_neg hne1]; exact k1, by rw [hget, if_neg hne2]; exact k2⟩
  · by_cases ec : c1 = cl
    · subst ec
      rw [hcls, if_pos rfl] at hc1
      cases hc1
      rcases hinv h.n r' s1 e1 with ⟨_, rfl, rfl⟩ | ⟨hz, _⟩
      · rw [hget, if_pos rfl] at hg1; cases hg1
        rcases hinv b2 r' s2 e2 with ⟨rfl, _, rfl⟩ | ⟨hne2, e2'⟩
        · rw [hget, if_pos rfl] at hg2; cases hg2; exact Nat.le_refl _
        · rw [hget, if_neg hne2] at hg2
          have hlt2 := Heap.get_lt hg2
          rcases hend with ⟨hf, hb1, _⟩ | hf2
          · have := hI.tip b b2 c1 cs cs2 fl r' s s2 hg hcl hb e2' hg2 (hf ▸ hle')
            omega
          · omega
      · exact absurd rfl hz
    · rw [hcls, if_neg ec] at hc1
      have hne1 : b1 ≠ h.n := fun z => by rw [hget, if_pos z] at hg1; cases hg1; exact ec rfl
      have hne2 : b2 ≠ h.n := fun z => by rw [hget, if_pos z] at hg2; cases hg2; exact ec rfl
      rw [hget, if_neg hne1] at hg1
      rw [hget, if_neg hne2] at hg2
      rcases hinv b1 r' s1 e1 with ⟨h1, _⟩ | ⟨_, e1'⟩
      · exact absurd h1 hne1
      · rcases hinv b2 r' s2 e2 with ⟨h1, _⟩ | ⟨_, e2'⟩
        · exact absurd h1 hne2
        · exact hI.tip b1 b2 c1 cs1 cs2 f1 r' s1 s2 hg1 hc1 e1' e2' hg2 hle'
  · rw [hget] at hg1
    rw [hcls] at hc1
    by_cases ec : c1 = cl
    · subst ec
      rw [if_pos rfl] at hc1; cases hc1
      split at hg1
      · omega
      · exact Nat.le_of_lt (Heap.get_lt hg1)
    · rw [if_neg ec] at hc1
      split at hg1
      · cases hg1; exact absurd rfl ec
      · exact hI.clt b1 cs1 c1 t f1 hg1 hc1
  · rw [hget] at hg1
    rw [hcls]
    by_cases ec : c1 = cl
    · exact ⟨_, if_pos ec⟩
    · rw [if_neg ec]
      split at hg1
      · cases hg1; exact absurd rfl ec
      · exact hI.clm b1 cs1 c1 hg1
  · exact ⟨by unfold Rho.set; rw [if_neg (Nat.ne_of_lt hx)]; exact ex, by rw [hget, if_neg (Nat.ne_of_lt hx)]⟩
theorem Inv.mput (hI : Inv lo n0 w0 ρ h w) {b r s t t' : Nat} {es es2 : List (Value × Value × Nat)} (hlo : lo ≤ b) (hb : ρ b = some (r, s)) (hg : h.get b = some (.map es t)) {em em' : Array MapEntry} (hr : w.heap[r]? = some (.map em t))
    (hl : es2.length = em'.size) (hv : ∀ (i : Nat) (k v : Value) (a : Nat), es2[i]? = some (k, v, a) → ∃ e : MapEntry, em'[i]? = some e ∧ VR ρ w k e.key ∧ VR ρ w v e.val ∧ e.born = a) :
    Inv lo n0 w0 ρ (h.setB b (.map es2 t')) (setRow w r (.map em' t')) ∧ Ext ρ ρ h (h.setB b (.map es2 t')) w (setRow w r (.map em' t')) := by
  have hsz : ∀ k, rowSize w k ≤ rowSize (setRow w r (.map em' t')) k := fun k => Nat.le_of_eq (rowSize_setMap hr k).symm
  have hid : ∀ (b : Nat) x, ρ b = some x → ρ b = some x := fun _ _ x => x
  have hn0 : n0 ≤ r := hI.new b r s hb hlo
  have hrlt := lt_of_get hr
  have hget : ∀ x, (h.setB b (.map es2 t')).get x = if x = b then some (.map es2 t') else h.get x := Heap.get_setB hg _
  have hcells : ∀ x, (h.setB b (.map es2 t')).cells x = h.cells x := by
    intro x
    by_cases ex : x = b
    · subst ex; unfold Heap.cells; rw [hget, if_pos rfl, hg]
    · exact Heap.cells_congr (by rw [hget, if_neg ex]) fun _ _ _ => rfl
  have hlive : ∀ x, (h.setB b (.map es2 t')).live x → h.live x := by
    rintro x (⟨cs2, h2⟩ | ⟨e2, t2, h2⟩)
    · rw [hcells] at h2; exact .inl ⟨cs2, h2⟩
    · rw [hget] at h2; split at h2
      · rename_i ex; subst ex; exact .inr ⟨es, t, hg⟩
      · exact .inr ⟨e2, t2, h2⟩
  have hrow : ∀ x cs c, (h.setB b (.map es2 t')).get x = some (.row cs (some c)) → h.get x = some (.row cs (some c)) := by
    intro x cs c hx; rw [hget] at hx; split at hx
    · cases hx
    · exact hx
  have hrow2 : ∀ x cs c, h.get x = some (.row cs (some c)) → (h.setB b (.map es2 t')).get x = some (.row cs (some c)) := by
    intro x cs c hx; rw [hget, if_neg (fun e => by rw [e, hg] at hx; cases hx)]; exact hx
  refine ⟨⟨hI.below.trans (below_setRow hn0 _), hI.n0le, hI.lon, fun x r' s' ex => ⟨(hI.dom x r' s' ex).1, by rw [setRow_size]; exact (hI.dom x r' s' ex).2⟩, hI.new, fun x r' s' cs2 ex hc2 => ?_, fun x r' s' e2 t2 ex hg2 => ?_,
    fun b1 b2 r' s1 s2 e1 e2 hne hlo2 hl1 hl2 => ?_, fun b1 b2 c1 cs1 cs2 f1 r' s1 s2 hg1 hc1 e1 e2 hg2 hle' => hI.tip b1 b2 c1 cs1 cs2 f1 r' s1 s2 (hrow _ _ _ hg1) hc1 e1 e2 (hrow _ _ _ hg2) hle',
    fun b1 cs1 c1 t f1 hg1 hc1 => hI.clt b1 cs1 c1 t f1 (hrow _ _ _ hg1) hc1, fun b1 cs1 c1 hg1 => hI.clm b1 cs1 c1 (hrow _ _ _ hg1)⟩, ⟨hid, hsz, Nat.le_refl _, fun x hx ex => ⟨ex, by rw [hget, if_neg (fun e => by rw [e, hb] at ex; cases ex)]⟩⟩⟩
  · rw [hcells] at hc2
    obtain ⟨c0, e0, fz0, h1, h2, h3, h4⟩ := hI.row x r' s' cs2 ex hc2
    exact ⟨c0, e0, fz0, by rw [setRow_get, if_neg (fun z => by rw [z.1, hr] at h1; cases h1)]; exact h1, h2, h3, fun i hi => ⟨(h4 i hi).1.mono hid hsz, (h4 i hi).2⟩⟩
  · by_cases exb : x = b
    · subst exb
      rw [hget, if_pos rfl] at hg2; cases hg2
      rw [hb] at ex; cases ex
      exact ⟨em', by rw [setRow_get]; simp [hrlt], hl, fun i k v a hi => by
        obtain ⟨y, x1, x2, x3, x4⟩ := hv i k v a hi
        exact ⟨y, x1, x2.mono hid hsz, x3.mono hid hsz, x4⟩⟩
    · rw [hget, if_neg exb] at hg2
      obtain ⟨es', h1, h2, h3⟩ := hI.map x r' s' e2 t2 ex hg2
      have her : r' ≠ r := fun er => by
        subst er
        obtain ⟨c2, y1, y2, k1, k2⟩ := hI.sep b x r' s s' hb ex (fun z => exb z.symm) (.inl hlo) (live_map hg) (live_map hg2)
        rw [hg] at k1; cases k1
      exact ⟨es', by rw [setRow_get, if_neg (fun z => her z.1)]; exact h1, h2, fun i k v a hi => by
        obtain ⟨y, x1, x2, x3, x4⟩ := h3 i k v a hi
        exact ⟨y, x1, x2.mono hid hsz, x3.mono hid hsz, x4⟩⟩
  · obtain ⟨c2, cs1, cs2, h1, h2⟩ := hI.sep b1 b2 r' s1 s2 e1 e2 hne hlo2 (hlive b1 hl1) (hlive b2 hl2)
    exact ⟨c2, cs1, cs2, hrow2 _ _ _ h1, hrow2 _ _ _ h2⟩
end
end Go.Proofs.Ytbjgnogcjglcoaa.Hm
