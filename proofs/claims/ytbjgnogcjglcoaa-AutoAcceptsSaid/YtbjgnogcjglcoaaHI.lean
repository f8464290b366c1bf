/- The relation between H's heap and the machine's memory, and how it goes on: a new row, a new map, a row written, a row grown in place, a map written. -/
import Derived.Test.YtbjgnogcjglcoaaHR
namespace Go.Proofs.Ytbjgnogcjglcoaa.Hm
open Go Go.RowKit
set_option linter.all false
set_option linter.unusedSimpArgs false

def Heap.live (h : Heap) (b : Nat) : Prop := (∃ cs, h.cells b = some cs) ∨ ∃ es t, h.get b = some (.map es t)
structure Inv (lo n0 : Nat) (w0 : World) (ρ : Rho) (h : Heap) (w : World) : Prop where
  below : Below n0 w0 w
  n0le : n0 ≤ w0.heap.size
  lon : lo ≤ h.n
  dom : ∀ b r s, ρ b = some (r, s) → b < h.n ∧ r < w.heap.size
  new : ∀ b r s, ρ b = some (r, s) → lo ≤ b → n0 ≤ r
  row : ∀ b r s cs, ρ b = some (r, s) → h.cells b = some cs → ∃ c e fz, w.heap[r]? = some (.cells c e fz) ∧ (lo ≤ b → fz = (0, 0)) ∧ s + cs.length ≤ c.size ∧
    ∀ i, i < cs.length → VR ρ w (cs.getD i undef) (c.getD (s + i) undef) ∧ cell1 (cs.getD i undef) = true
  map : ∀ b r s es t, ρ b = some (r, s) → h.get b = some (.map es t) → ∃ es' : Array MapEntry, w.heap[r]? = some (.map es' t) ∧ es.length = es'.size ∧
    ∀ (i : Nat) (k v : Value) (a : Nat), es[i]? = some (k, v, a) → ∃ e : MapEntry, es'[i]? = some e ∧ VR ρ w k e.key ∧ VR ρ w v e.val ∧ e.born = a
  sep : ∀ b b' r s s', ρ b = some (r, s) → ρ b' = some (r, s') → b ≠ b' → (lo ≤ b ∨ lo ≤ b') → h.live b → h.live b' →
    ∃ c cs cs', h.get b = some (.row cs (some c)) ∧ h.get b' = some (.row cs' (some c))
  tip : ∀ b b' c cs cs' fl r s s', h.get b = some (.row cs (some c)) → h.cl c = some (b, fl) → ρ b = some (r, s) → ρ b' = some (r, s') →
    h.get b' = some (.row cs' (some c)) → fl ≤ b' → s' + cs'.length ≤ s + cs.length
  clt : ∀ b cs c t fl, h.get b = some (.row cs (some c)) → h.cl c = some (t, fl) → b ≤ t
  clm : ∀ b cs c, h.get b = some (.row cs (some c)) → ∃ x, h.cl c = some x
/-- What a step keeps. -/
structure Ext (ρ ρ' : Rho) (h h' : Heap) (w w' : World) : Prop where
  le : ∀ b x, ρ b = some x → ρ' b = some x
  sz : ∀ r, rowSize w r ≤ rowSize w' r
  n : h.n ≤ h'.n
  keep : ∀ b, b < h.n → ρ b = none → ρ' b = none ∧ h'.get b = h.get b
theorem Ext.refl (ρ : Rho) (h : Heap) (w : World) : Ext ρ ρ h h w w := ⟨fun _ _ e => e, fun _ => Nat.le_refl _, Nat.le_refl _, fun _ _ e => ⟨e, rfl⟩⟩
theorem Ext.trans {ρ ρ' ρ'' : Rho} {h h' h'' : Heap} {w w' w'' : World} (a : Ext ρ ρ' h h' w w') (b : Ext ρ' ρ'' h' h'' w' w'') : Ext ρ ρ'' h h'' w w'' :=
  ⟨fun x y e => b.le _ _ (a.le _ _ e), fun r => Nat.le_trans (a.sz r) (b.sz r), Nat.le_trans a.n b.n, fun x hx e => by
    obtain ⟨e1, g1⟩ := a.keep x hx e
    obtain ⟨e2, g2⟩ := b.keep x (Nat.lt_of_lt_of_le hx a.n) e1
    exact ⟨e2, g2.trans g1⟩⟩
theorem Ext.vr {ρ ρ' : Rho} {h h' : Heap} {w w' : World} (a : Ext ρ ρ' h h' w w') {v v' : Value} (k : VR ρ w v v') : VR ρ' w' v v' := k.mono a.le a.sz
theorem Ext.vrl {ρ ρ' : Rho} {h h' : Heap} {w w' : World} (a : Ext ρ ρ' h h' w w') {v v' : List Value} (k : VRl ρ w v v') : VRl ρ' w' v v' := k.mono a.le a.sz
def Rho.set (ρ : Rho) (b r s : Nat) : Rho := fun x => if x = b then some (r, s) else ρ x
theorem rowSize_push (w : World) (o : Obj) (r : Nat) : rowSize w r ≤ rowSize (w.alloc o) r := by
  unfold rowSize
  show _ ≤ (match (w.heap.push o)[r]? with | some (.cells c _ _) => c.size | _ => 0)
  rw [Array.getElem?_push]
  by_cases e : r = w.heap.size
  · subst e; simp
  · rw [if_neg e]; exact Nat.le_refl _
theorem live_row {h : Heap} {b : Nat} {cs : List Value} (e : h.cells b = some cs) : h.live b := .inl ⟨cs, e⟩
theorem live_map {h : Heap} {b t : Nat} {es : List (Value × Value × Nat)} (e : h.get b = some (.map es t)) : h.live b := .inr ⟨es, t, e⟩
theorem live_get {h : Heap} {b : Nat} (e : h.live b) : (∃ cs, h.get b = some (.row cs none)) ∨ (∃ cs c t fl, h.get b = some (.row cs (some c)) ∧ h.cl c = some (t, fl) ∧ fl ≤ b) ∨ ∃ es t, h.get b = some (.map es t) := by
  rcases e with ⟨cs, e⟩ | e
  · rcases Heap.cells_some e with e | ⟨c, t, fl, e⟩
    · exact .inl ⟨cs, e⟩
    · exact .inr (.inl ⟨cs, c, t, fl, e⟩)
  · exact .inr (.inr e)
/-- Where blocks and classes below read as before, so do rows. -/
theorem cells_same {h h' : Heap} {b : Nat} (hg : h'.get b = h.get b) (hc : ∀ c, (∃ x, h.cl c = some x) → h'.cl c = h.cl c) {lo n0 : Nat} {w0 w : World} {ρ : Rho} (hI : Inv lo n0 w0 ρ h w) : h'.cells b = h.cells b :=
  Heap.cells_congr hg fun c cs e => hc c (hI.clm b cs c e)

section
variable {lo n0 : Nat} {w0 : World} {ρ : Rho} {h : Heap} {w : World}
/-- The memory is another only in blocks that H doesn't know, or behind its end. -/
theorem Inv.world (hI : Inv lo n0 w0 ρ h w) {w' : World} (hb : Below n0 w w') (hh : ∀ b r s, ρ b = some (r, s) → w'.heap[r]? = w.heap[r]?) (hsz : ∀ r, rowSize w r ≤ rowSize w' r) : Inv lo n0 w0 ρ h w' where
  below := hI.below.trans hb
  n0le := hI.n0le
  lon := hI.lon
  dom b r s e := ⟨(hI.dom b r s e).1, Nat.lt_of_lt_of_le (hI.dom b r s e).2 hb.size⟩
  new := hI.new
  row b r s cs e hc := by
    obtain ⟨c, e', fz, h1, h2, h3, h4⟩ := hI.row b r s cs e hc
    exact ⟨c, e', fz, (hh b r s e).trans h1, h2, h3, fun i hi => ⟨(h4 i hi).1.mono (fun _ _ x => x) hsz, (h4 i hi).2⟩⟩
  map b r s es t e hc := by
    obtain ⟨es', h1, h2, h3⟩ := hI.map b r s es t e hc
    exact ⟨es', (hh b r s e).trans h1, h2, fun i k v a hi => by
      obtain ⟨x, x1, x2, x3, x4⟩ := h3 i k v a hi
      exact ⟨x, x1, x2.mono (fun _ _ x => x) hsz, x3.mono (fun _ _ x => x) hsz, x4⟩⟩
  sep := hI.sep
  tip := hI.tip
  clt := hI.clt
  clm := hI.clm
theorem Inv.drew (hI : Inv lo n0 w0 ρ h w) : Inv lo n0 w0 ρ h w.drew := hI.world (Below.refl _ _).drew (fun _ _ _ _ => rfl) (fun _ => Nat.le_refl _)
/-- H has one block more that nothing knows. -/
theorem Inv.push (hI : Inv lo n0 w0 ρ h w) {h' : Heap} (x : HB) (hn : h'.n = h.n + 1) (hg : ∀ b, h'.get b = if b = h.n then some x else h.get b) (hc : ∀ c, (∃ y, h.cl c = some y) → h'.cl c = h.cl c)
    (hx : ∀ cs c, x = .row cs (some c) → ∃ y, h'.cl c = some y ∧ h.n ≤ y.1) (hx2 : ∀ cs c, x = .row cs (some c) → h.cl c = none) : Inv lo n0 w0 ρ h' w := by
  have hlt : ∀ b r s, ρ b = some (r, s) → h'.get b = h.get b := fun b r s e => by rw [hg, if_neg (Nat.ne_of_lt (hI.dom b r s e).1)]
  have hcl : ∀ b r s, ρ b = some (r, s) → h'.cells b = h.cells b := fun b r s e => cells_same (hlt b r s e) hc hI
  have hlive : ∀ b r s, ρ b = some (r, s) → h'.live b → h.live b := fun b r s e hl => by
    rcases hl with ⟨cs, e'⟩ | ⟨es, t, e'⟩
    · exact .inl ⟨cs, (hcl b r s e) ▸ e'⟩
    · exact .inr ⟨es, t, (hlt b r s e) ▸ e'⟩
  refine ⟨hI.below, hI.n0le, by have := hI.lon; omega, fun b r s e => ⟨by have := (hI.dom b r s e).1; omega, (hI.dom b r s e).2⟩, hI.new, fun b r s cs e e' => hI.row b r s cs e ((hcl b r s e) ▸ e'),
    fun b r s es t e e' => hI.map b r s es t e ((hlt b r s e) ▸ e'), fun b b' r s s' e e' hne hlo hl hl' => ?_, fun b b' c cs cs' fl r s s' hgb hcb e e' hgb' hle => ?_, fun b cs c t fl hgb hcb => ?_, fun b cs c hgb => ?_⟩
  · obtain ⟨c, cs, cs', h1, h2⟩ := hI.sep b b' r s s' e e' hne hlo (hlive b r s e hl) (hlive b' r s' e' hl')
    exact ⟨c, cs, cs', (hlt b r s e).trans h1, (hlt b' r s' e').trans h2⟩
  · rw [hlt b r s e] at hgb
    rw [hlt b' r s' e'] at hgb'
    rw [hc c (hI.clm b cs c hgb)] at hcb
    exact hI.tip b b' c cs cs' fl r s s' hgb hcb e e' hgb' hle
  · rw [hg] at hgb
    by_cases eb : b = h.n
    · simp only [eb, if_true, Option.some.injEq] at hgb
      obtain ⟨y, hy, hle⟩ := hx cs c hgb
      rw [hy] at hcb; cases hcb; simpa [eb] using hle
    · simp only [eb, if_false] at hgb
      rw [hc c (hI.clm b cs c hgb)] at hcb
      exact hI.clt b cs c t fl hgb hcb
  · rw [hg] at hgb
    by_cases eb : b = h.n
    · simp only [eb, if_true, Option.some.injEq] at hgb
      obtain ⟨y, hy, _⟩ := hx cs c hgb
      exact ⟨y, hy⟩
    · simp only [eb, if_false] at hgb
      obtain ⟨y, hy⟩ := hI.clm b cs c hgb
      exact ⟨y, (hc c ⟨y, hy⟩).trans hy⟩
/-- A block that nothing knows yet is laid beside a new one of the memory. -/
theorem Inv.tell (hI : Inv lo n0 w0 ρ h w) {b : Nat} (hb : b < h.n) (hlo : lo ≤ b) (hρ : ρ b = none) (o : Obj)
    (hrow : ∀ cs, h.cells b = some cs → ∃ c e, o = .cells c e (0, 0) ∧ cs.length ≤ c.size ∧ ∀ i, i < cs.length → VR ρ w (cs.getD i undef) (c.getD i undef) ∧ cell1 (cs.getD i undef) = true)
    (hmap : ∀ es t, h.get b = some (.map es t) → es = [] ∧ o = .map #[] t) :
    Inv lo n0 w0 (Rho.set ρ b w.heap.size 0) h (w.alloc o) ∧ (∀ x y, ρ x = some y → (Rho.set ρ b w.heap.size 0) x = some y) ∧ (∀ r, rowSize w r ≤ rowSize (w.alloc o) r) ∧ (∀ x, x ≠ b → ρ x = none → (Rho.set ρ b w.heap.size 0) x = none) := by
  have hle : ∀ x y, ρ x = some y → (Rho.set ρ b w.heap.size 0) x = some y := fun x y e => by
    unfold Rho.set; split
    · rename_i e'; rw [e', hρ] at e; cases e
    · exact e
  have hsz := rowSize_push w o
  have hold : ∀ b' r s, ρ b' = some (r, s) → (w.alloc o).heap[r]? = w.heap[r]? := fun b' r s e => Below.heap_alloc _ _ _ (hI.dom b' r s e).2
  have hn0 : n0 ≤ w.heap.size := Nat.le_trans hI.n0le hI.below.size
  have hinv : ∀ b' r s, (Rho.set ρ b w.heap.size 0) b' = some (r, s) → (b' = b ∧ r = w.heap.size ∧ s = 0) ∨ (b' ≠ b ∧ ρ b' = some (r, s)) := fun b' r s e => by
    unfold Rho.set at e; split at e
    · cases e; exact .inl ⟨by assumption, rfl, rfl⟩
    · exact .inr ⟨by assumption, e⟩
  have hself : (w.alloc o).heap[w.heap.size]? = some o := by show (w.heap.push o)[w.heap.size]? = _; simp
  refine ⟨⟨hI.below.trans ((Below.refl _ _).alloc hn0 o), hI.n0le, hI.lon, fun b' r s e => ?_, fun b' r s e hl => ?_, fun b' r s cs e hc => ?_, fun b' r s es t e hc => ?_, fun b1 b2 r s s' e e' hne hlo2 hl hl' => ?_, fun b1 b2 c cs cs' fl r s s' hg1 hc1 e e' hg2 hle' => ?_, hI.clt, hI.clm⟩,
    hle, hsz, fun x hx e => by unfold Rho.set; rw [if_neg hx]; exact e⟩
  · rcases hinv b' r s e with ⟨rfl, rfl, rfl⟩ | ⟨hne, e⟩
    · exact ⟨hb, by show _ < (w.heap.push o).size; simp⟩
    · exact ⟨(hI.dom b' r s e).1, by show _ < (w.heap.push o).size; have := (hI.dom b' r s e).2; simp; omega⟩
  · rcases hinv b' r s e with ⟨rfl, rfl, rfl⟩ | ⟨hne, e⟩
    · exact hn0
    · exact hI.new b' r s e hl
  · rcases hinv b' r s e with ⟨rfl, rfl, rfl⟩ | ⟨hne, e⟩
    · obtain ⟨c, el, rfl, h1, h2⟩ := hrow cs hc
      exact ⟨c, el, _, hself, fun _ => rfl, by simpa using h1, fun i hi => ⟨by simpa using (h2 i hi).1.mono hle hsz, (h2 i hi).2⟩⟩
    · obtain ⟨c, el, fz, h1, h2, h3, h4⟩ := hI.row b' r s cs e hc
      exact ⟨c, el, fz, (hold b' r s e).trans h1, h2, h3, fun i hi => ⟨(h4 i hi).1.mono hle hsz, (h4 i hi).2⟩⟩
  · rcases hinv b' r s e with ⟨rfl, rfl, rfl⟩ | ⟨hne, e⟩
    · obtain ⟨rfl, rfl⟩ := hmap es t hc
      exact ⟨#[], hself, rfl, fun i k v a hi => by simp at hi⟩
    · obtain ⟨es', h1, h2, h3⟩ := hI.map b' r s es t e hc
      exact ⟨es', (hold b' r s e).trans h1, h2, fun i k v a hi => by
        obtain ⟨x, x1, x2, x3, x4⟩ := h3 i k v a hi
        exact ⟨x, x1, x2.mono hle hsz, x3.mono hle hsz, x4⟩⟩
  · rcases hinv b1 r s e with ⟨rfl, rfl, rfl⟩ | ⟨hne1, e1⟩ <;> rcases hinv b2 _ s' e' with ⟨rfl, h1, rfl⟩ | ⟨hne2, e2⟩
    · exact absurd rfl hne
    · exact absurd (hI.dom b2 _ s' e2).2 (Nat.lt_irrefl _)
    · subst h1; exact absurd (hI.dom b1 _ s e1).2 (Nat.lt_irrefl _)
    · exact hI.sep b1 b2 r s s' e1 e2 hne hlo2 hl hl'
  · rcases hinv b1 r s e with ⟨rfl, rfl, rfl⟩ | ⟨hne1, e1⟩ <;> rcases hinv b2 _ s' e' with ⟨rfl, h1, rfl⟩ | ⟨hne2, e2⟩
    · rw [hg1] at hg2; cases hg2; exact Nat.le_refl _
    · exact absurd (hI.dom b2 _ s' e2).2 (Nat.lt_irrefl _)
    · subst h1; exact absurd (hI.dom b1 _ s e1).2 (Nat.lt_irrefl _)
    · exact hI.tip b1 b2 c cs cs' fl r s s' hg1 hc1 e1 e2 hg2 hle'
end
end Go.Proofs.Ytbjgnogcjglcoaa.Hm
