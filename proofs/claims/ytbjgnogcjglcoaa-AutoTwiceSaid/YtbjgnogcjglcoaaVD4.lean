import Derived.Test.YtbjgnogcjglcoaaHF
import Derived.Test.YtbjgnogcjglcoaaA6
import Derived.Test.YtbjgnogcjglcoaaVD3
namespace Go.Proofs.Ytbjgnogcjglcoaa.Hm.V
open Go
set_option linter.all false
set_option maxRecDepth 100000
attribute [local irreducible] X S R D W Call Upd Rds Rck Sees Res Cel CallP fnQ
def edsRow (i : Nat) (row : List Int) : List Ed := row.mapIdx fun k t => ⟨(i : Int), (k : Int), t⟩
def edsOf (rows : List (List Int)) : List Ed := (rows.mapIdx edsRow).flatten
def idxT (l : List Bool) : List Int := ((List.range l.length).filter fun k => l.getD k default).map fun k : Nat => (k : Int)
theorem edsRow_snoc (i : Nat) (row : List Int) (x : Int) : edsRow i (row ++ [x]) = edsRow i row ++ [⟨(i : Int), (row.length : Int), x⟩] := by unfold edsRow; rw [List.mapIdx_concat]
theorem edsRow_len (i : Nat) (row : List Int) : (edsRow i row).length = row.length := by simp [edsRow]
theorem edsOf_snoc (rows : List (List Int)) (row : List Int) : edsOf (rows ++ [row]) = edsOf rows ++ edsRow rows.length row := by
  unfold edsOf; rw [List.mapIdx_concat, List.flatten_append]; simp
theorem snoc_ind {α : Type} {p : List α → Prop} (h0 : p []) (hs : ∀ l x, p l → p (l ++ [x])) (l : List α) : p l := by
  rw [← List.reverse_reverse l]
  induction l.reverse with
  | nil => exact h0
  | cons x l ih => rw [List.reverse_cons]; exact hs _ _ ih
theorem edsOf_len {n : Nat} (rows : List (List Int)) : (∀ r ∈ rows, r.length = n) → (edsOf rows).length = rows.length * n :=
  snoc_ind (p := fun rows => (∀ r ∈ rows, r.length = n) → (edsOf rows).length = rows.length * n) (fun _ => by simp [edsOf]) (fun l x ih h => by
    rw [edsOf_snoc, List.length_append, edsRow_len, ih (fun r hr => h r (by simp [hr])), h x (by simp), List.length_append, List.length_singleton, Nat.add_mul, Nat.one_mul]) rows
theorem idxT_snoc (l : List Bool) (b : Bool) : idxT (l ++ [b]) = idxT l ++ (if b then [((l.length : Nat) : Int)] else []) := by
  unfold idxT
  rw [List.length_append, List.length_singleton, List.range_succ, List.filter_append, List.map_append]
  congr 1
  · congr 1
    apply List.filter_congr
    intro k hk
    rw [getD_app (List.mem_range.1 hk)]
  · have e : (l ++ [b]).getD l.length default = b := by
      rw [List.getD_eq_getElem?_getD, List.getElem?_append_right (Nat.le_refl _)]; simp
    cases b <;> simp [e]
theorem idxT_len (l : List Bool) : (idxT l).length ≤ l.length := by
  unfold idxT
  rw [List.length_map]
  exact Nat.le_trans (List.length_filter_le _ _) (by simp)
abbrev noAuV : Value := .agg ⟨[.int .i64 0, .int .i64 0, .slice none 0 0, .slice none 0 0, .slice none 0 0]⟩
structure DB (a : Au) (D : Option (List Nat)) (i : Nat) (ord : List Nat) : Prop where
  hi : i ≤ ord.length
  start : ∃ t, ord = setOf a.st :: t
  len : ord.length ≤ 256
  big : ord.length * a.L.toNat ≤ 200000
  hD : detS a.ed a.L.toNat (257 - i) i ord = D
  nd : ord.Nodup
  lt : ∀ m ∈ ord, m < 2 ^ 256
  cl : ∀ m ∈ ord.take i, ∀ s ∈ nextL a.ed m a.L.toNat, s ∈ ord
def enT (a : Au) (i : Nat) (ord : List Nat) : List Int := idxT ((ord.take i).map fun m => decide (m &&& setOf a.en ≠ 0))
def edT (a : Au) (i : Nat) (ord : List Nat) : List Ed := edsOf ((ord.take i).map fun m => rowS ord (nextL a.ed m a.L.toNat))
theorem DB.next {a : Au} {D : Option (List Nat)} {i : Nat} {ord : List Nat} (hA : isAutoP a) (hI : DB a D i ord) (hlt : i < ord.length)
    (hbig : bigS a.L.toNat ((nextL a.ed (ord.getD i default) a.L.toNat).foldl insS ord) = false) : DB a D (i + 1) ((nextL a.ed (ord.getD i default) a.L.toNat).foldl insS ord) := by
  obtain ⟨t, ht⟩ := fold_app ord (nextL a.ed (ord.getD i default) a.L.toNat)
  obtain ⟨b1, b2⟩ := bigS_false hbig
  have hcl : ∀ m ∈ ord.take i ++ [ord.getD i default], ∀ s ∈ nextL a.ed m a.L.toNat, s ∈ (nextL a.ed (ord.getD i default) a.L.toNat).foldl insS ord := fun m hm s hs => by
    rcases List.mem_append.1 hm with hm | hm
    · exact fold_sub (hI.cl m hm s hs)
    · rw [List.mem_singleton.1 hm] at hs
      exact fold_mem hs
  refine ⟨?_, ?_, b1, b2, ?_, fold_nodup hI.nd, fold_lt hI.lt (nextL_lt (isAuto_ed hA)), ?_⟩
  · rw [ht, List.length_append]; omega
  · obtain ⟨u, hu⟩ := hI.start
    exact ⟨u ++ t, by rw [ht, hu]; rfl⟩
  · have h2 := hI.len
    have e : 257 - i = (257 - (i + 1)) + 1 := by omega
    rw [← hI.hD, e, detS_step hlt hbig]
  · rw [ht, take_app_succ hlt, ← ht]; exact hcl
theorem DB.big_none {a : Au} {D : Option (List Nat)} {i : Nat} {ord : List Nat} (hI : DB a D i ord) (hlt : i < ord.length) {c : Nat}
    (hbig : bigS a.L.toNat (((nextL a.ed (ord.getD i default) a.L.toNat).take c).foldl insS ord) = true) : D = none := by
  have h2 := hI.len
  have e : 257 - i = (257 - (i + 1)) + 1 := by omega
  have hb : bigS a.L.toNat ((nextL a.ed (ord.getD i default) a.L.toNat).foldl insS ord) = true := by
    obtain ⟨t, ht⟩ := fold_app (((nextL a.ed (ord.getD i default) a.L.toNat).take c).foldl insS ord) ((nextL a.ed (ord.getD i default) a.L.toNat).drop c)
    rw [← List.foldl_append, List.take_append_drop] at ht
    rw [ht]
    simp only [bigS, Bool.or_eq_true, decide_eq_true_eq, List.length_append] at hbig ⊢
    rcases hbig with h | h
    · exact .inl (by omega)
    · refine .inr (Nat.lt_of_lt_of_le h (Nat.mul_le_mul_right _ (by omega)))
  rw [← hI.hD, e, detS_big hlt hb]
theorem DB.done {a : Au} {D : Option (List Nat)} {i : Nat} {ord : List Nat} (hI : DB a D i ord) (hle : ord.length ≤ i) : D = some ord ∧ DetP a ord ∧ enT a i ord = idxT (endsS a ord) ∧ edT a i ord = edsOf (rowsS a ord) := by
  have h2 := hI.len
  have hi : i = ord.length := by have := hI.hi; omega
  subst hi
  have e : 257 - ord.length = (257 - (ord.length + 1)) + 1 := by omega
  have hcl := hI.cl
  rw [List.take_length] at hcl
  refine ⟨by rw [← hI.hD, e, detS_end (Nat.le_refl _)], ⟨hI.start, hI.nd, hI.lt, hI.len, hI.big, hcl⟩, ?_, ?_⟩
  · unfold enT endsS; rw [List.take_length]
  · unfold edT rowsS; rw [List.take_length]
end Go.Proofs.Ytbjgnogcjglcoaa.Hm.V
