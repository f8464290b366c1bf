/- Layer 15: clauses among a law's arguments, with their bulk. -/
import Derived.Test.YtgaplmpopgdfbaaHF
import Derived.Test.YtgaplmpopgdfbaaA6
import Derived.Test.YtgaplmpopgdfbaaVN8
import Derived.Test.YtgaplmpopgdfbaaHG
import Derived.Test.YtgaplmpopgdfbaaRows
namespace Go.Proofs.Ytgaplmpopgdfbaa.Hm.V
open Go
set_option linter.all false
set_option maxRecDepth 100000
attribute [local irreducible] X S R D W Call Upd Rds Rck Sees Res Cel CallP fnQ
open Rows in
section
variable {D : Type} {P : Program} {h : Heap} {t : TypeId} {d : DataW D} {cs : List Value}
theorem bulk_part {d : DataW D} {l : List (DataW D)} (h : d ∈ l) : Rows.uptoBulk d ≤ Rows.uptoBulkAll l := by
  induction l with
  | nil => cases h
  | cons x r ih =>
    simp only [Rows.uptoBulkAll]
    cases List.mem_cons.1 h with
    | inl e => subst e; omega
    | inr e => have := ih e; omega
theorem bulk_one (d : DataW D) : 1 ≤ Rows.uptoBulk d := by
  cases d with
  | lit l => cases l <;> simp [Rows.uptoBulk]
  | nil => simp [Rows.uptoBulk]
  | ptr d => simp [Rows.uptoBulk]
  | slice elems spare => simp [Rows.uptoBulk]
  | agg parts => simp [Rows.uptoBulk]
  | iface t d => simp [Rows.uptoBulk]
  | map entries => simp [Rows.uptoBulk]
  | held h => simp [Rows.uptoBulk]
theorem bulk_app (l r : List (DataW D)) : Rows.uptoBulkAll (l ++ r) = Rows.uptoBulkAll l + Rows.uptoBulkAll r := by
  induction l with
  | nil => simp [Rows.uptoBulkAll]
  | cons x l ih => simp only [List.cons_append, Rows.uptoBulkAll, ih]; omega
theorem bulk_len (l : List (DataW D)) : l.length ≤ Rows.uptoBulkAll l := by
  induction l with
  | nil => simp [Rows.uptoBulkAll]
  | cons x r ih => have := bulk_one x; simp only [Rows.uptoBulkAll, List.length_cons]; omega
/-- A slice, its elements by their places. -/
theorem TR_sliceI {e : TypeId} (kk : TR P h t cs d) (hu : P.underlying t = some (.slice e)) : ∃ (v : Value) (xs : List (List Value)) (es : List (DataW D)), cs = [v] ∧ Fz (viewOf h) (P.cellsOf e) v xs ∧ xs.length = es.length ∧ xs.length ≤ maxLen ∧ (∀ i, i < xs.length → ∃ d', es[i]? = some d' ∧ TR P h e (xs.getD i default) d') ∧ Rows.uptoBulkAll es ≤ Rows.uptoBulk d := by
  have hkk := kk
  cases kk with
  | nils _ e hu' => exact ⟨_, [], [], rfl, Fz.nil _ _, rfl, Nat.zero_le _, fun i hi => absurd hi (Nat.not_lt_zero _), Nat.zero_le _⟩
  | slice _ e b len cap es rest cf df hu' he h1 h2 h3 hb hr ht hd =>
    rw [hu] at hu'; cases hu'
    obtain ⟨cs, hg⟩ := hb
    have hc := cells_row hg
    have hrd : ∀ i, i < cap → i * P.cellsOf e + P.cellsOf e ≤ cs.length ∧ (cs.drop (i * P.cellsOf e)).take (P.cellsOf e) = cf i := fun i hi => by
      have := hr i hi
      unfold Heap.rd at this
      rw [hc] at this
      simp only at this
      split at this
      · exact ⟨by assumption, Option.some.inj this⟩
      · cases this
    have key : ∀ m, m ≤ cap → m * P.cellsOf e ≤ cs.length ∧ cs.take (m * P.cellsOf e) = ((List.range m).map cf).flatten := by
      intro m
      induction m with
      | zero => intro _; simp
      | succ m ih =>
        intro hm
        obtain ⟨i1, i2⟩ := ih (by omega)
        obtain ⟨q1, q2⟩ := hrd m (by omega)
        rw [Nat.succ_mul]
        refine ⟨q1, ?_⟩
        rw [List.take_add, i2, q2, List.range_succ, List.map_append, List.flatten_append]
        simp
    have hlc : len ≤ cap := by omega
    obtain ⟨k1, k2⟩ := key len hlc
    refine ⟨_, (List.range len).map cf, es, rfl, ⟨fun x hx => ?_, .inr ⟨b, 0, none, cap, cs, by simp, by simpa using hlc, .inl rfl, viewOf_row hg, by simpa using k1, by simpa using k2⟩⟩, by simp [h1], by simp; omega, fun i hi => ?_, ?_⟩
    · obtain ⟨i, hi, rfl⟩ := List.mem_map.1 hx
      have hi : i < cap := by have := List.mem_range.1 hi; omega
      obtain ⟨q1, q2⟩ := hrd i hi
      rw [← q2, List.length_take, List.length_drop]; omega
    · have hi : i < len := by simpa using hi
      refine ⟨df i, ?_, ?_⟩
      · have q := hd i (by omega)
        rwa [List.getElem?_append_left (by omega)] at q
      · rw [getD_eq (by simpa using hi), List.getElem_map, List.getElem_range]
        exact ht i (by omega)
    · simp only [Rows.uptoBulk]; omega
  | bool _ b hu' => rw [hu] at hu'; cases hu'
  | int _ k' n hu' => rw [hu] at hu'; cases hu'
  | str _ s hu' => rw [hu] at hu'; cases hu'
  | struct _ fs cs ds df hu' => rw [hu] at hu'; cases hu'
  | array _ e n cs ds df hu' => rw [hu] at hu'; cases hu'
/-- Numbers. -/
theorem TR_intsI {e : TypeId} {k : IntKind} (kk : TR P h t cs d) (hu : P.underlying t = some (.slice e)) (he : P.underlying e = some (.int k)) (hz : P.cellsOf e = 1) : ∃ (v : Value) (l : List Int), cs = [v] ∧ Fz (viewOf h) 1 v (l.map fun n => [.int k n]) ∧ l.length ≤ Rows.uptoBulk d := by
  obtain ⟨v, xs, es, rfl, h1, h2, _, h3, h4⟩ := TR_sliceI kk hu
  obtain ⟨l, rfl⟩ := map_of (f := fun n : Int => [Value.int k n]) (xs := xs) fun x hx => by
    obtain ⟨i, hi, rfl⟩ := List.getElem_of_mem hx
    obtain ⟨d', _, q⟩ := h3 i hi
    obtain ⟨n, e, _⟩ := TR_int q he
    rw [getD_eq hi] at e
    exact ⟨n, e⟩
  rw [hz] at h1
  have := bulk_len es
  rw [List.length_map] at h2
  exact ⟨v, l, rfl, h1, by omega⟩
/-- Slices of numbers. -/
theorem TR_rowsI {e e2 : TypeId} (kk : TR P h t cs d) (hu : P.underlying t = some (.slice e)) (he : P.underlying e = some (.slice e2)) (he2 : P.underlying e2 = some (.int .i64)) (hz : P.cellsOf e = 1) (hz2 : P.cellsOf e2 = 1) (hB : Rows.uptoBulk d ≤ 1048576) :
    ∃ (v : Value) (ws : List Value) (ls : List (List Int)), cs = [v] ∧ Fz (viewOf h) 1 v (ws.map cV) ∧ RowsI (viewOf h) ws ls ∧ sumL ls ls.length ≤ Rows.uptoBulk d ∧ ws.length ≤ Rows.uptoBulk d := by
  obtain ⟨v, xs, es, rfl, h1, h2, hm, h3, h4⟩ := TR_sliceI kk hu
  rw [hz] at h1
  have key : ∀ m, m ≤ xs.length → ∃ ws ls, xs.take m = ws.map cV ∧ RowsI (viewOf h) ws ls ∧ (ls.map List.length).sum ≤ Rows.uptoBulkAll (es.take m) := by
    intro m
    induction m with
    | zero => exact fun _ => ⟨[], [], by simp, trivial, Nat.zero_le _⟩
    | succ m ih =>
      intro hm
      obtain ⟨ws, ls, q1, q2, q3⟩ := ih (by omega)
      obtain ⟨d', r1, r2⟩ := h3 m (by omega)
      obtain ⟨w, l, r3, r4, r5⟩ := TR_intsI r2 he he2 hz2
      have hmem : d' ∈ es := List.mem_of_getElem? r1
      have hb := bulk_part hmem
      refine ⟨ws ++ [w], ls ++ [l], ?_, RowsI.app q2 ⟨⟨r4, by omega⟩, trivial⟩, ?_⟩
      · rw [List.take_succ, q1, List.map_append, getD_at hm, r3]; rfl
      · rw [List.take_succ, r1, List.map_append, List.sum_append]
        have := bulk_app (es.take m) [d']
        have e1 : Rows.uptoBulkAll [d'] = Rows.uptoBulk d' := by simp [Rows.uptoBulkAll]
        simp only [List.map_cons, List.map_nil, List.sum_cons, List.sum_nil, Option.toList_some]
        omega
  obtain ⟨ws, ls, q1, q2, q3⟩ := key xs.length (Nat.le_refl _)
  rw [List.take_length] at q1
  subst q1
  rw [h2, List.take_length] at q3
  have hbl := bulk_len es
  refine ⟨v, ws, ls, rfl, h1, q2, ?_, ?_⟩
  · rw [sumL_take _ _ (Nat.le_refl _), List.take_length]; omega
  · rw [List.length_map] at h2; omega
theorem TR_structI {fs : Array Field} (kk : TR P h t cs d) (hu : P.underlying t = some (.struct fs)) : cs.length = P.cellsOf t ∧ ∀ (i : Nat) (f : Field), fs[i]? = some f → ∃ d' : DataW D, TR P h f.type ((cs.drop f.offset).take (P.cellsOf f.type)) d' ∧ Rows.uptoBulk d' ≤ Rows.uptoBulk d := by
  cases kk with
  | struct _ fs' cs ds df hu' hl hn hf hd =>
    rw [hu] at hu'; cases hu'
    refine ⟨hl, fun i f e => ⟨df i, hf i f e, ?_⟩⟩
    have hi : i < fs.size := by
      rcases Nat.lt_or_ge i fs.size with h | h
      · exact h
      · rw [Array.getElem?_eq_none h] at e; cases e
    have := bulk_part (List.mem_of_getElem? (hd i hi))
    simp only [Rows.uptoBulk]; omega
  | bool _ b hu' => rw [hu] at hu'; cases hu'
  | int _ k' n hu' => rw [hu] at hu'; cases hu'
  | str _ s hu' => rw [hu] at hu'; cases hu'
  | nils _ e hu' => rw [hu] at hu'; cases hu'
  | slice _ e b len cap es rest cf df hu' => rw [hu] at hu'; cases hu'
  | array _ e n cs ds df hu' => rw [hu] at hu'; cases hu'
end
theorem CfV_of {D : Type} {h : Heap} {v : Value} {d : DataW D} (kk : TA Try.prog h 52 v d) (hB : Rows.uptoBulk d ≤ 1048576) : ∃ c, CfV (viewOf h) v c ∧ sumL c.cl c.cl.length ≤ 1048576 ∧ c.cl.length ≤ 1048576 := by
  obtain ⟨cs, rfl, k⟩ := TA_agg kk (by kernel_rfl)
  obtain ⟨hl, hf⟩ := TR_structI k Try.underlying52
  have z : Try.prog.cellsOf 52 = 2 := by kernel_rfl
  have z3 : Try.prog.cellsOf 3 = 1 := by kernel_rfl
  have z28 : Try.prog.cellsOf 28 = 1 := by kernel_rfl
  have z42 : Try.prog.cellsOf 42 = 1 := by kernel_rfl
  rw [z] at hl
  match cs, hl with
  | [x0, x1], _ =>
    obtain ⟨_, k0, _⟩ := hf 0 _ rfl
    replace k0 : TR Try.prog h 3 (([x0, x1].drop 0).take (Try.prog.cellsOf 3)) _ := k0
    rw [z3] at k0
    obtain ⟨n0, e0, _⟩ := TR_int k0 Try.underlying3
    obtain ⟨_, k1, b1⟩ := hf 1 _ rfl
    replace k1 : TR Try.prog h 28 (([x0, x1].drop 1).take (Try.prog.cellsOf 28)) _ := k1
    rw [z28] at k1
    obtain ⟨v1, ws, ls, e1, f1, q1, q2, q3⟩ := TR_rowsI k1 Try.underlying28 Try.underlying42 Try.underlying3 z42 z3 (Nat.le_trans b1 hB)
    simp at e0 e1
    have q4 := q1.len
    exact ⟨⟨n0, ls⟩, ⟨v1, ws, by rw [e0, e1], f1, q1, by omega⟩, Nat.le_trans q2 (Nat.le_trans b1 hB), by show ls.length ≤ _; omega⟩
end Go.Proofs.Ytgaplmpopgdfbaa.Hm.V
