/- A growing slice written anew, whole. -/
import Derived.Test.YtbjgnogcjglcoaaA6
namespace Go.Proofs.Ytbjgnogcjglcoaa.Hm.V
open Go
set_option linter.all false
theorem flat_len {e : Nat} : ∀ {xs : List (List Value)}, (∀ x ∈ xs, x.length = e) → xs.flatten.length = xs.length * e
  | [], _ => by simp
  | x :: xs, h => by
    have h1 := h x (by simp)
    have ih := flat_len (xs := xs) fun y hy => h y (by simp [hy])
    rw [List.flatten_cons, List.length_append, h1, ih, List.length_cons, Nat.add_mul]; omega
theorem gro_whole {lo : Nat} {Z : Vw} {O : List Pt} {h : Heap} {v : Value} {e : Nat} {xs xs' : List (List Value)} (m : Mem lo Z (.gro v e xs :: O) h) (hl : xs'.length = xs.length) (hx : ∀ x ∈ xs', x.length = e) (hne : xs ≠ []) :
    ∃ b sp cp, v = .slice (some ⟨b, 0, sp⟩) xs.length cp ∧ h.rd b 0 (xs.length * e) = some xs.flatten ∧ ∃ h', h.wr lo b 0 xs'.flatten = some h' ∧ Mem lo Z (.gro v e xs' :: O) h' := by
  obtain ⟨h5, he, ⟨rfl, rfl⟩ | ⟨b, c, fl, rfl, h1, h2, h3, h4⟩ | ⟨b, rfl, h1, h2⟩⟩ := m.own _ List.mem_cons_self
  · exact absurd rfl hne
  · have hf := flat_len h5
    have hf' := flat_len hx
    rw [hl] at hf'
    have hrd : h.rd b 0 (xs.length * e) = some xs.flatten := by
      unfold Heap.rd
      rw [cells_cls h2 h3 h4]
      simp only [Nat.zero_add, hf, Nat.le_refl, if_true, List.drop_zero]
      rw [← hf, List.take_length]
    refine ⟨b, some e, xs.length, rfl, hrd, _, ?_, m.setGro (xs' := xs') h2 h3 hl.symm hl.symm hx⟩
    unfold Heap.wr
    rw [cells_cls h2 h3 h4]
    simp only [Nat.zero_add, hf, hf', Nat.le_refl, if_true, List.take_zero, List.nil_append]
    rw [List.drop_of_length_le (by rw [hf]; exact Nat.le_refl _), List.append_nil]
    unfold Heap.put
    rw [if_neg (by omega), h2]
    simp only [h3, if_true]
  · have hf := flat_len h5
    have hf' := flat_len hx
    rw [hl] at hf'
    have hrd : h.rd b 0 (xs.length * e) = some xs.flatten := by
      unfold Heap.rd
      rw [cells_row h2]
      simp only [Nat.zero_add, hf, Nat.le_refl, if_true, List.drop_zero]
      rw [← hf, List.take_length]
    refine ⟨b, none, xs.length, rfl, hrd, _, wr_row h2 h1 (by omega), ?_⟩
    have hcs : (xs.flatten.take 0 ++ (xs'.flatten ++ xs.flatten.drop (0 + xs'.flatten.length))) = xs'.flatten := by
      rw [List.take_zero, List.nil_append, List.drop_of_length_le (by rw [hf, hf']; omega), List.append_nil]
    rw [hcs]
    refine m.setRow (o' := .gro (.slice (some ⟨b, 0, none⟩) xs.length xs.length) e xs') (b := b) rfl rfl h2 ⟨hx, he, .inr (.inr ⟨b, by rw [hl], h1, ?_⟩)⟩
    rw [Heap.get_setB h2, if_pos rfl]
end Go.Proofs.Ytbjgnogcjglcoaa.Hm.V
