/- Of layer 27: ref27.Det. -/
import Derived.Test.YtbjgnogcjglcoaaHF
import Derived.Test.YtbjgnogcjglcoaaA6
import Derived.Test.YtbjgnogcjglcoaaVD3
namespace Go.Proofs.Ytbjgnogcjglcoaa.Hm.V
open Go
set_option linter.all false
set_option maxRecDepth 100000
attribute [local irreducible] X S R D W Call Upd Rds Rck Sees Res Cel CallP fnQ
def edsRow (i : Nat) (row : List Int) : List Ed := row.mapIdx fun k t => ⟨(i : Int), (k : Int), t⟩
def edsOf (rows : List (List Int)) : List Ed := (rows.mapIdx edsRow).flatten
def idxT (l : List Bool) : List Int := ((List.range l.length).filter fun k => l.getD k default).map fun k : Nat => (k : Int)
theorem edsRow_snoc (i : Nat) (row : List Int) (x : Int) : edsRow i (row ++ [x]) = edsRow i row ++ [⟨(i : Int), (row.length : Int), x⟩] := by unfold edsRow; rw [List.mapIdx_concat]
theorem edsRow_len (i : Nat) (row : List Int) : (edsRow i row).length = row.length := by simp [edsRow]
theorem edsOf_snoc (rows : List (List Int)) (row : List Int) : edsOf (rows ++ [row]) = edsOf rows ++ edsRow rows.length row := by
  unfold edsOf; rw [List.mapIdx_concat, List.flatten_append]; simp
theorem snoc_ind {α : Type} {p : List α → Prop} (h0 : p []) (hs : ∀ l x, p l → p (l ++ [x])) (l : List α) : p l := by
  rw [← List.reverse_reverse l]
  induction l.reverse with
  | nil => exact h0
  | cons x l ih => rw [List.reverse_cons]; exact hs _ _ ih
theorem edsOf_len {n : Nat} (rows : List (List Int)) : (∀ r ∈ rows, r.length = n) → (edsOf rows).length = rows.length * n :=
  snoc_ind (p := fun rows => (∀ r ∈ rows, r.length = n) → (edsOf rows).length = rows.length * n) (fun _ => by simp [edsOf]) (fun l x ih h => by
    rw [edsOf_snoc, List.length_append, edsRow_len, ih (fun r hr => h r (by simp [hr])), h x (by simp), List.length_append, List.length_singleton, Nat.add_mul, Nat.one_mul]) rows
theorem idxT_snoc (l : List Bool) (b : Bool) : idxT (l ++ [b]) = idxT l ++ (if b then [((l.length : Nat) : Int)] else []) := by
  unfold idxT
  rw [List.length_append, List.length_singleton, List.range_succ, List.filter_append, List.map_append]
  congr 1
  · congr 1
    apply List.filter_congr
    intro k hk
    rw [getD_app (List.mem_range.1 hk)]
  · have e : (l ++ [b]).getD l.length default = b := by
      rw [List.getD_eq_getElem?_getD, List.getElem?_append_right (Nat.le_refl _)]; simp
    cases b <;> simp [e]
theorem idxT_len (l : List Bool) : (idxT l).length ≤ l.length := by
  unfold idxT
  rw [List.length_map]
  exact Nat.le_trans (List.length_filter_le _ _) (by simp)
/-- The sets' automaton. -/
def detAu (a : Au) (ord : List Nat) : Au := ⟨(ord.length : Int), a.L, [0], idxT (endsS a ord), edsOf (rowsS a ord)⟩
abbrev noAuV : Value := .agg ⟨[.int .i64 0, .int .i64 0, .slice none 0 0, .slice none 0 0, .slice none 0 0]⟩
def detQ (a : Au) (D : Option (List Nat)) (r : Value) (Z : Vw) : Prop := match D with
  | none => r = .tuple ⟨[noAuV, .bool false]⟩
  | some ord => DetP a ord ∧ ∃ v, r = .tuple ⟨[v, .bool true]⟩ ∧ AuV Z v (detAu a ord)
structure DB (a : Au) (D : Option (List Nat)) (i : Nat) (ord : List Nat) : Prop where
  hi : i ≤ ord.length
  start : ∃ t, ord = setOf a.st :: t
  len : ord.length ≤ 256
  big : ord.length * a.L.toNat ≤ 200000
  hD : detS a.ed a.L.toNat (257 - i) i ord = D
  nd : ord.Nodup
  lt : ∀ m ∈ ord, m < 2 ^ 256
  cl : ∀ m ∈ ord.take i, ∀ s ∈ nextL a.ed m a.L.toNat, s ∈ ord
def enT (a : Au) (i : Nat) (ord : List Nat) : List Int := idxT ((ord.take i).map fun m => decide (m &&& setOf a.en ≠ 0))
def edT (a : Au) (i : Nat) (ord : List Nat) : List Ed := edsOf ((ord.take i).map fun m => rowS ord (nextL a.ed m a.L.toNat))
theorem DB.next {a : Au} {D : Option (List Nat)} {i : Nat} {ord : List Nat} (hA : isAutoP a) (hI : DB a D i ord) (hlt : i < ord.length)
    (hbig : bigS a.L.toNat ((nextL a.ed (ord.getD i default) a.L.toNat).foldl insS ord) = false) : DB a D (i + 1) ((nextL a.ed (ord.getD i default) a.L.toNat).foldl insS ord) := by
  obtain ⟨t, ht⟩ := fold_app ord (nextL a.ed (ord.getD i default) a.L.toNat)
  obtain ⟨b1, b2⟩ := bigS_false hbig
  have hcl : ∀ m ∈ ord.take i ++ [ord.getD i default], ∀ s ∈ nextL a.ed m a.L.toNat, s ∈ (nextL a.ed (ord.getD i default) a.L.toNat).foldl insS ord := fun m hm s hs => by
    rcases List.mem_append.1 hm with hm | hm
    · exact fold_sub (hI.cl m hm s hs)
    · rw [List.mem_singleton.1 hm] at hs
      exact fold_mem hs
  refine ⟨?_, ?_, b1, b2, ?_, fold_nodup hI.nd, fold_lt hI.lt (nextL_lt (isAuto_ed hA)), ?_⟩
  · rw [ht, List.length_append]; omega
  · obtain ⟨u, hu⟩ := hI.start
    exact ⟨u ++ t, by rw [ht, hu]; rfl⟩
  · have h2 := hI.len
    have e : 257 - i = (257 - (i + 1)) + 1 := by omega
    rw [← hI.hD, e, detS_step hlt hbig]
  · rw [ht, take_app_succ hlt, ← ht]; exact hcl
theorem DB.en_next {a : Au} {D : Option (List Nat)} {i : Nat} {ord : List Nat} (hI : DB a D i ord) (hlt : i < ord.length) (b : Bool) (hb : b = true ↔ ord.getD i default &&& setOf a.en ≠ 0) :
    enT a (i + 1) ((nextL a.ed (ord.getD i default) a.L.toNat).foldl insS ord) = enT a i ord ++ (if b then [(i : Int)] else []) := by
  obtain ⟨t, ht⟩ := fold_app ord (nextL a.ed (ord.getD i default) a.L.toNat)
  unfold enT
  rw [ht, take_app_succ hlt, List.map_append]
  have e : decide (ord.getD i default &&& setOf a.en ≠ 0) = b := by
    cases b
    · exact decide_eq_false (fun hh => absurd (hb.2 hh) Bool.false_ne_true)
    · exact decide_eq_true (hb.1 rfl)
  rw [List.map_cons, List.map_nil, e, idxT_snoc, List.length_map, List.length_take, Nat.min_eq_left hI.hi]
theorem DB.ed_next {a : Au} {D : Option (List Nat)} {i : Nat} {ord : List Nat} (hI : DB a D i ord) (hlt : i < ord.length) :
    edT a (i + 1) ((nextL a.ed (ord.getD i default) a.L.toNat).foldl insS ord) = edT a i ord ++ edsRow i (rowS ((nextL a.ed (ord.getD i default) a.L.toNat).foldl insS ord) (nextL a.ed (ord.getD i default) a.L.toNat)) := by
  obtain ⟨t, ht⟩ := fold_app ord (nextL a.ed (ord.getD i default) a.L.toNat)
  unfold edT
  have e1 : (((nextL a.ed (ord.getD i default) a.L.toNat).foldl insS ord).take (i + 1)) = ord.take i ++ [ord.getD i default] := by rw [ht, take_app_succ hlt]
  rw [e1, List.map_append, List.map_cons, List.map_nil, edsOf_snoc, List.length_map, List.length_take, Nat.min_eq_left hI.hi]
  congr 2
  apply List.map_congr_left
  intro m hm
  exact rowS_fold (hI.cl m hm)
theorem DB.big_none {a : Au} {D : Option (List Nat)} {i : Nat} {ord : List Nat} (hI : DB a D i ord) (hlt : i < ord.length) {c : Nat}
    (hbig : bigS a.L.toNat (((nextL a.ed (ord.getD i default) a.L.toNat).take c).foldl insS ord) = true) : D = none := by
  have h2 := hI.len
  have e : 257 - i = (257 - (i + 1)) + 1 := by omega
  have hb : bigS a.L.toNat ((nextL a.ed (ord.getD i default) a.L.toNat).foldl insS ord) = true := by
    obtain ⟨t, ht⟩ := fold_app (((nextL a.ed (ord.getD i default) a.L.toNat).take c).foldl insS ord) ((nextL a.ed (ord.getD i default) a.L.toNat).drop c)
    rw [← List.foldl_append, List.take_append_drop] at ht
    rw [ht]
    simp only [bigS, Bool.or_eq_true, decide_eq_true_eq, List.length_append] at hbig ⊢
    rcases hbig with h | h
    · exact .inl (by omega)
    · refine .inr (Nat.lt_of_lt_of_le h (Nat.mul_le_mul_right _ (by omega)))
  rw [← hI.hD, e, detS_big hlt hb]
theorem DB.done {a : Au} {D : Option (List Nat)} {i : Nat} {ord : List Nat} (hI : DB a D i ord) (hle : ord.length ≤ i) : D = some ord ∧ DetP a ord ∧ enT a i ord = idxT (endsS a ord) ∧ edT a i ord = edsOf (rowsS a ord) := by
  have h2 := hI.len
  have hi : i = ord.length := by have := hI.hi; omega
  subst hi
  have e : 257 - ord.length = (257 - (ord.length + 1)) + 1 := by omega
  have hcl := hI.cl
  rw [List.take_length] at hcl
  refine ⟨by rw [← hI.hD, e, detS_end (Nat.le_refl _)], ⟨hI.start, hI.nd, hI.lt, hI.len, hI.big, hcl⟩, ?_, ?_⟩
  · unfold enT endsS; rw [List.take_length]
  · unfold edT rowsS; rw [List.take_length]
theorem enT_len {a : Au} {i : Nat} {ord : List Nat} : (enT a i ord).length ≤ i := by
  refine Nat.le_trans (idxT_len _) ?_
  rw [List.length_map, List.length_take]; omega
theorem edT_len {a : Au} {i : Nat} {ord : List Nat} : (edT a i ord).length = min i ord.length * a.L.toNat := by
  unfold edT
  rw [edsOf_len (n := a.L.toNat), List.length_map, List.length_take]
  intro r hr
  obtain ⟨m, _, rfl⟩ := List.mem_map.1 hr
  rw [rowS_len, nextL_len]
theorem rowS_step {ord ss : List Nat} {c : Nat} (h : c < ss.length) (hall : ∀ s ∈ ss.take c, s ∈ ord) :
    rowS (insS ord (ss.getD c default)) (ss.take (c + 1)) = rowS ord (ss.take c) ++ [(((insS ord (ss.getD c default)).idxOf (ss.getD c default) : Nat) : Int)] := by
  obtain ⟨t, ht⟩ := insS_app ord (ss.getD c default)
  have e2 : rowS (insS ord (ss.getD c default)) (ss.take c) = rowS ord (ss.take c) := by rw [ht, rowS_app hall]
  rw [List.take_succ, getD_at h, ← e2]; simp [rowS]
theorem mul_lo {n : Nat} {L : Int} (h0 : 0 ≤ L) : -9223372036854775808 ≤ (n : Int) * L := Int.le_trans (by decide) (Int.mul_nonneg (by omega) h0)
theorem mul_hi {n : Nat} {L : Int} (h0 : 0 ≤ L) (h1 : L ≤ 1024) (hn : n ≤ 1000000) : (n : Int) * L < 9223372036854775808 := by
  have : (n : Int) * L ≤ 1000000 * 1024 := Int.mul_le_mul (by omega) h1 h0 (by decide)
  omega
theorem mul_nat {n : Nat} {L : Int} (h0 : 0 ≤ L) : (n : Int) * L = ((n * L.toNat : Nat) : Int) := by rw [Int.natCast_mul]; congr 1; omega
set_option maxHeartbeats 4000000 in
theorem DetR_ok (lo : Nat) {Z : Vw} {v : Value} {a : Au} (ha : AuV Z v a) (hA : isAutoP a) : CallP F lo 28 [v] Z fun r Z' => detQ a (detS a.ed a.L.toNat 257 0 [setOf a.st]) r Z' := by
  have hinS := isAuto_st hA
  have hinE := isAuto_en hA
  have hinD := isAuto_ed hA
  have hL : 1 ≤ a.L ∧ a.L ≤ 1024 := ⟨hA.2.2.1, hA.2.2.2.1⟩
  generalize hD : detS a.ed a.L.toNat 257 0 [setOf a.st] = D
  have hI0 : DB a D 0 [setOf a.st] := ⟨Nat.zero_le _, ⟨[], rfl⟩, (by simp), (by simp; omega), hD, (by simp), fun m hm => (by rw [List.mem_singleton.1 hm]; exact setOf_lt hinS), fun m hm => absurd hm (by simp)⟩
  have hV := ha
  obtain ⟨vs, ve, vg, rfl, hs, he, hg, q1, q2, q3⟩ := ha
  refine FnP (fn := c28) rfl rfl rfl ?_
  (refine W_seq ?_; (refine W_rgn ?_; ((refine Ra rfl (xBox rfl (fun b1 => ?_))) <;> (refine Ra rfl (X_alloc (fun b2 => ?_))) <;> (refine Ra rfl (X_mv rfl ?_)) <;> (refine R_nil ?_))) <;> ((refine thenQ_nrm ?_; (refine W_seq ?_; (refine W_rgn ?_; ((refine Ra rfl (X_faddr rfl ?_)) <;> (refine Ra rfl (X_load (lB rfl rfl) ?_)) <;> (refine Ra rfl (X_bsliceC (pCons rfl Parts.nil) rfl rfl rfl (fun v12 => ?_))) <;> (refine Ra rfl (X_buildC (pCons rfl (pCons rfl Parts.nil)) rfl ?_)) <;> (refine Ra rfl (X_alloc (fun b4 => ?_))) <;> (refine Rn (xSW rfl rfl rfl rfl ?_)) <;> (refine R_nil ?_))) <;> ((refine thenQ_nrm ?_; (refine W_seq ?_; (refine W_rgn ?_; ((refine Ra rfl (X_faddr rfl ?_)) <;> (refine Ra rfl (X_load (lB rfl rfl) ?_)) <;> (refine Ra rfl (xP (Of_ok lo (by assumption) (by assumption)) rfl (fun _ Z16 hz16 hq => ?_)); (subst hq)) <;> (refine Ra rfl (X_bsliceC (pCons rfl Parts.nil) rfl rfl rfl (fun v17 => ?_))) <;> (refine Ra rfl (X_mv rfl ?_)) <;> (refine R_nil ?_))) <;> ((refine thenQ_nrm ?_; (refine W_seq ?_; (refine W_seq ?_; (refine W_rgn ?_; ((refine Ra rfl (X_mv rfl ?_)) <;> (refine R_nil ?_))) <;> ((refine thenQ_nrm ?_; (refine W_block ?_; ((
      refine wLoop (fun (p : Nat × List Nat × Value × Value × Value) => match p with | (i, ord, vl, ven, ved) => [(6, .int .i64 (i : Nat)), (5, vl)]) (fun p => match p with | (i, ord, vl, ven, ved) => .gro vl 4 (ord.map cS) :: .box b4 [.int .i64 0, .int .i64 a.L, v12, ven, ved] :: .gro ved 3 ((edT a i ord).map Ed.c) :: .gro ven 1 ((enT a i ord).map cI) :: [.arr v12 1 1 [[.int .i64 0]], .box b2 [.int .i64 0, .int .i64 0, .slice none 0 0, .slice none 0 0, .slice none 0 0], .box b1 [.int .i64 a.S, .int .i64 a.L, vs, ve, vg]])
        (fun p Zi => match p with | (i, ord, vl, ven, ved) => DB a D i ord) (fun p => match p with | (i, _) => 257 - i) (0, [setOf a.st], v17, .slice none 0 0, .slice none 0 0) (by repeat' (first | exact trivial | exact rfl | constructor))
        (Upd.gro0 (e := 1) (by decide) (Upd.gro0 (e := 3) (by decide) (Upd.done ⟨hI0, hAG rfl rfl rfl (hB rfl (hG rfl (hG rfl (hR rfl (hB rfl (hB rfl Has.nil))))))⟩))) ?_
      rintro ⟨i, ord, vl, ven, ved⟩ Z1 hz1 hI
      have hI : DB a D i ord := hI
      have hi := hI.hi
      have hlen := hI.len
      have hoi : i < ord.length → ord.getD i default < 2 ^ 256 := fun h => by rw [getD_eq h]; exact hI.lt _ (List.getElem_mem h)
      have hnl := nextL_len a.ed (ord.getD i default) a.L.toNat
      have hel := enT_len (a := a) (i := i) (ord := ord)
      have hdl := edT_len (a := a) (i := i) (ord := ord)
      have hdl2 : min i ord.length * a.L.toNat ≤ 256 * 1024 := Nat.mul_le_mul (by omega) (by omega)
      rw [← hdl] at hdl2) <;> (refine W_seq ?_; (refine W_seq ?_; (refine W_rgn ?_; ((refine Ra rfl (X_mv rfl ?_)) <;> (refine Ra rfl (X_mv rfl ?_)) <;> (refine Ra rfl (xLen rfl ?_)) <;> (refine Ra rfl (X_lss rfl rfl (fun _ => ?_) (fun _ => ?_))) <;> (refine R_nil ?_))) <;> ((refine thenQ_nrm ?_; (refine W_cond rfl (fun ht => ?_) (fun ht => ?_) <;> (first | exact absurd ht (by decide) | (refine W_skip ?_) | (refine W_exit ?_)))))) <;> (first | refine thenQ_ext ?_ | (refine thenQ_nrm ?_; (refine W_seq ?_; (refine W_block ?_; (refine W_seq ?_; (refine W_seq ?_; (refine W_rgn ?_; ((refine Ra rfl (X_mv rfl ?_)) <;> (refine R_nil ?_))) <;> ((refine thenQ_nrm ?_; (refine W_block ?_; ((
      refine wLoop (fun (p : Nat × Value × Value) => match p with | (c, vl, ved) => [(7, .int .i64 (c : Nat)), (5, vl)]) (fun p => match p with | (c, vl, ved) => .gro vl 4 ((((nextL a.ed (ord.getD i default) a.L.toNat).take c).foldl insS ord).map cS) :: .box b4 [.int .i64 0, .int .i64 a.L, v12, ven, ved] :: .gro ved 3 ((edT a i ord ++ edsRow i (rowS (((nextL a.ed (ord.getD i default) a.L.toNat).take c).foldl insS ord) ((nextL a.ed (ord.getD i default) a.L.toNat).take c))).map Ed.c) :: .gro ven 1 ((enT a i ord).map cI) :: [.arr v12 1 1 [[.int .i64 0]], .box b2 [.int .i64 0, .int .i64 0, .slice none 0 0, .slice none 0 0, .slice none 0 0], .box b1 [.int .i64 a.S, .int .i64 a.L, vs, ve, vg]])
        (fun p _ => match p with | (c, _) => c ≤ a.L.toNat ∧ bigS a.L.toNat (((nextL a.ed (ord.getD i default) a.L.toNat).take c).foldl insS ord) = false) (fun p => match p with | (c, _) => a.L.toNat - c) (0, vl, ved) (by repeat' (first | exact trivial | exact rfl | constructor))
        (Upd.done ⟨⟨Nat.zero_le _, by rw [List.take_zero]; exact bigS_no hI.len hI.big⟩, hG rfl (hB rfl (hG (by simp [rowS, edsRow]) (hG rfl (hR rfl (hB rfl (hB rfl Has.nil))))))⟩) ?_
      rintro ⟨c, vl, ved⟩ Z2 hz2 hc
      obtain ⟨hc, hbg⟩ : c ≤ a.L.toNat ∧ bigS a.L.toNat (((nextL a.ed (ord.getD i default) a.L.toNat).take c).foldl insS ord) = false := hc
      have hb1 := bigS_false hbg
      have hlt1 : ∀ x ∈ ((nextL a.ed (ord.getD i default) a.L.toNat).take c).foldl insS ord, x < 2 ^ 256 := fold_lt hI.lt (fun m hm => nextL_lt hinD m (List.mem_of_mem_take hm))
      have hs1 : c < a.L.toNat → (nextL a.ed (ord.getD i default) a.L.toNat).getD c default < 2 ^ 256 := fun h => by rw [getD_eq (by omega)]; exact nextL_lt hinD _ (List.getElem_mem _)
      obtain ⟨tl, htl⟩ := fold_app ord ((nextL a.ed (ord.getD i default) a.L.toNat).take c)
      have hol : ord.length ≤ (((nextL a.ed (ord.getD i default) a.L.toNat).take c).foldl insS ord).length := by rw [htl, List.length_append]; omega
      have hgi : (((nextL a.ed (ord.getD i default) a.L.toNat).take c).foldl insS ord).getD i default = ord.getD i default := by rw [htl, getD_app (by omega)]
      have hmi : (((nextL a.ed (ord.getD i default) a.L.toNat).take c).foldl insS ord).getD i default < 2 ^ 256 := by rw [hgi]; exact hoi (by omega)
      have hall : ∀ s ∈ (nextL a.ed (ord.getD i default) a.L.toNat).take c, s ∈ ((nextL a.ed (ord.getD i default) a.L.toNat).take c).foldl insS ord := fun s hs => fold_mem hs
      have hls : (((nextL a.ed (ord.getD i default) a.L.toNat).take c).foldl insS ord ++ [(nextL a.ed (ord.getD i default) a.L.toNat).getD c default]).length = (((nextL a.ed (ord.getD i default) a.L.toNat).take c).foldl insS ord).length + 1 := by simp
      have hmul : ((((nextL a.ed (ord.getD i default) a.L.toNat).take c).foldl insS ord).length : Int) * a.L = (((((nextL a.ed (ord.getD i default) a.L.toNat).take c).foldl insS ord).length * a.L.toNat : Nat) : Int) := mul_nat (by omega)
      have hmul2 : ((((nextL a.ed (ord.getD i default) a.L.toNat).take c).foldl insS ord ++ [(nextL a.ed (ord.getD i default) a.L.toNat).getD c default]).length : Int) * a.L = (((((nextL a.ed (ord.getD i default) a.L.toNat).take c).foldl insS ord ++ [(nextL a.ed (ord.getD i default) a.L.toNat).getD c default]).length * a.L.toNat : Nat) : Int) := mul_nat (by omega)
      have htk : ((nextL a.ed (ord.getD i default) a.L.toNat).take c).length = c := by rw [List.length_take]; omega
      have hrl : (edT a i ord ++ edsRow i (rowS (((nextL a.ed (ord.getD i default) a.L.toNat).take c).foldl insS ord) ((nextL a.ed (ord.getD i default) a.L.toNat).take c))).length = (edT a i ord).length + c := by rw [List.length_append, edsRow_len, rowS_len, htk]
      have hsc : c < a.L.toNat → stepTo a.ed ((((nextL a.ed (ord.getD i default) a.L.toNat).take c).foldl insS ord).getD i default) ((c : Nat) : Int) = (nextL a.ed (ord.getD i default) a.L.toNat).getD c default := fun h => by rw [hgi, getD_eq (l := nextL a.ed (ord.getD i default) a.L.toNat) (by omega)]; simp only [nextL, List.getElem_map, List.getElem_range]) <;> (refine W_seq ?_; (refine W_seq ?_; (refine W_rgn ?_; ((refine Ra rfl (X_mv rfl ?_)) <;> (refine Ra rfl (X_faddr rfl ?_)) <;> (refine Ra rfl (X_load (lB rfl rfl) ?_)) <;> (refine Ra rfl (X_lss rfl rfl (fun _ => ?_) (fun _ => ?_))) <;> (refine R_nil ?_))) <;> ((refine thenQ_nrm ?_; (refine W_cond rfl (fun ht => ?_) (fun ht => ?_) <;> (first | exact absurd ht (by decide) | (refine W_skip ?_) | (refine W_exit ?_)))))) <;> (first | refine thenQ_ext ?_ | (refine thenQ_nrm ?_; (refine W_seq ?_; (refine W_block ?_; (refine W_seq ?_; (refine W_drw ?_; ((refine Da rfl rfl (X_load (lBA rfl rfl) ?_)) <;> (refine Da rfl rfl (X_mv rfl ?_)) <;> (refine Da rfl rfl (X_mv rfl ?_)) <;> (refine Da rfl rfl (xIa rfl rfl (by omega) (by omega) ?_)) <;> (refine Da rfl rfl (X_load (lEA rfl (by omega)) ?_)) <;> (refine Da rfl rfl (X_mv rfl ?_)) <;> (refine Da rfl rfl (X_alloc (fun b8 => ?_))) <;> (refine Da rfl rfl (xP (To7_ok lo (by first | assumption | exact AuV.le (by assumption) ZC.le) (by assumption)) rfl (fun _ Z36 hz36 hq => ?_)); (subst hq; rw [hsc (by omega)])) <;> (refine Dn rfl (xSW rfl rfl rfl rfl ?_)) <;> (refine D_nil ?_))) <;> ((refine thenQ_nrm ?_; (refine W_seq ?_; (refine W_rgn ?_; ((refine Ra rfl (X_mv rfl ?_)) <;> (refine Ra rfl (X_load (lBA rfl rfl) ?_)) <;> (refine Ra rfl (x1G (place_ok lo (hs1 (by omega)) hlt1 (by omega)) rfl (fun _ Z39 o39 hz39 ho => ?_)); (obtain ⟨rfl, ho⟩ := ho; rcases ho with ⟨hm, rfl⟩ | ⟨hm, rfl⟩)) <;> (refine Ra rfl (X_mv rfl ?_)) <;> (refine R_nil ?_))) <;> ((refine thenQ_nrm ?_; (refine W_seq ?_; (refine W_seq ?_; (refine W_rgn ?_; ((refine Ra rfl (X_mv rfl ?_)) <;> (first | (refine Ra rfl (X_bin (v := .bool true) rfl rfl rfl ?_)) | (refine Ra rfl (X_lss rfl rfl (fun hh => (by exfalso; omega)) (fun _ => ?_)))) <;> (refine R_nil ?_))) <;> ((refine thenQ_nrm ?_; (refine W_cond rfl (fun ht => ?_) (fun ht => ?_) <;> (first | exact absurd ht (by decide) | (refine W_seq ?_; (refine W_rgn ?_; ((refine Ra rfl (X_mv rfl ?_)) <;> (refine Ra rfl (xLen rfl ?_)) <;> (refine Ra rfl (X_mv rfl ?_)) <;> (refine R_nil ?_))) <;> ((refine thenQ_nrm ?_; (refine W_rgn ?_; ((refine Ra rfl (X_mv rfl ?_)) <;> (refine Ra rfl (X_load (lBA rfl rfl) ?_)) <;> (refine Ra rfl (X_bsliceC (pCons rfl Parts.nil) rfl rfl rfl (fun v46 => ?_))) <;> (refine Ra rfl (xApGm ((nextL a.ed (ord.getD i default) a.L.toNat).getD c default) rfl rfl rfl (by omega) (fun v47 => ?_))) <;> (refine Ra rfl (X_mv rfl ?_)) <;> (refine R_nil ?_)))))) | (refine W_skip ?_)))))) <;> ((refine thenQ_nrm ?_; (refine W_seq ?_; (refine W_seq ?_; (refine W_rgn ?_; ((refine Ra rfl (X_mv rfl ?_)) <;> (refine Ra rfl (xLen rfl ?_)) <;> (refine Ra rfl (X_gtr rfl rfl (fun _ => ?_) (fun _ => ?_))) <;> (refine Ra rfl (X_mv rfl ?_)) <;> (first | (refine Rb rfl rfl (X_mv rfl ?_)) | (refine Rc rfl rfl ?_)) <;> (first | (refine Rb rfl rfl (xLen rfl ?_)) | (refine Rc rfl rfl ?_)) <;> (first | (refine Rb rfl rfl (X_faddr rfl ?_)) | (refine Rc rfl rfl ?_)) <;> (first | (refine Rb rfl rfl (X_load (lB rfl rfl) ?_)) | (refine Rc rfl rfl ?_)) <;> (first | (refine Rb rfl rfl (X_mulI rfl rfl (mul_lo (by omega)) (mul_hi (by omega) (by omega) (by omega)) ?_)) | (refine Rc rfl rfl ?_)) <;> (first | (refine Rb rfl rfl (X_gtr rfl rfl (fun _ => ?_) (fun _ => ?_))) | (refine Rc rfl rfl ?_)) <;> (first | (refine Ra rfl (X_pickT rfl rfl ?_)) | (refine Ra rfl (X_pickF rfl rfl ?_))) <;> (refine R_nil ?_))) <;> ((refine thenQ_nrm ?_; (refine W_cond rfl (fun ht => ?_) (fun ht => ?_) <;> (first | exact absurd ht (by decide) | (refine W_seq ?_; (refine W_rgn ?_; ((refine Ra rfl (X_buildC Parts.nil rfl ?_)) <;> (refine Rn (xSW rfl rfl rfl rfl ?_)) <;> (refine Ra rfl (X_mv rfl ?_)) <;> (refine R_nil ?_))) <;> ((refine thenQ_nrm ?_; (refine W_ret ?_)))) | (refine W_skip ?_)))))) <;> (first | refine thenQ_ret ?_ | (refine thenQ_nrm ?_; (refine W_rgn ?_; ((refine Ra rfl (X_faddr rfl ?_)) <;> (refine Ra rfl (X_load (lB rfl rfl) ?_)) <;> (refine Ra rfl (X_mv rfl ?_)) <;> (refine Ra rfl (X_mv rfl ?_)) <;> (refine Ra rfl (X_mv rfl ?_)) <;> (refine Ra rfl (X_buildC (pCons rfl (pCons rfl (pCons rfl Parts.nil))) rfl ?_)) <;> (refine Ra rfl (X_bsliceC (pCons rfl Parts.nil) rfl rfl rfl (fun v66 => ?_))) <;> (first | (refine Ra rfl (xApGm (⟨(i : Int), (c : Int), (((((nextL a.ed (ord.getD i default) a.L.toNat).take c).foldl insS ord).idxOf ((nextL a.ed (ord.getD i default) a.L.toNat).getD c default) : Nat) : Int)⟩ : Ed) rfl rfl rfl (by omega) (fun v67 => ?_))) | (refine Ra rfl (xApGm (⟨(i : Int), (c : Int), (((((nextL a.ed (ord.getD i default) a.L.toNat).take c).foldl insS ord).length : Nat) : Int)⟩ : Ed) rfl rfl rfl (by omega) (fun v67 => ?_)))) <;> (refine Ra rfl (X_faddr rfl ?_)) <;> (refine Rn (xSB rfl rfl rfl rfl rfl ?_)) <;> (refine R_nil ?_))))))))))))))) <;> (first | refine blockQ_nrm ?_ | refine blockQ_ret ?_)) <;> (first | refine thenQ_ret ?_ | (refine thenQ_nrm ?_; (refine W_rgn ?_; ((refine Ra rfl (X_mv rfl ?_)) <;> (refine Ra rfl (X_addI rfl rfl (by omega) (by omega) ?_)) <;> (refine Ra rfl (X_mv rfl ?_)) <;> (refine R_nil ?_))))))))) <;> (first | refine thenQ_ret ?_ | refine thenQ_ext ?_ | (refine thenQ_nrm ?_; (
        refine Upd.done ⟨(c + 1, _, _), ?_, ?_, (by repeat' (first | exact trivial | exact rfl | constructor)), hG ?_ (hB rfl (hG ?_ (hG rfl (hR rfl (hB rfl (hB rfl Has.nil))))))⟩
        · show a.L.toNat - (c + 1) < a.L.toNat - c
          omega

        · show c + 1 ≤ a.L.toNat ∧ bigS a.L.toNat ((((nextL a.ed (ord.getD i default) a.L.toNat).take (c + 1)).foldl insS ord)) = false
          refine ⟨by omega, ?_⟩
          rw [fold_take (by omega)]
          first
            | (rw [insS, if_pos hm]; exact hbg)
            | (rw [insS, if_neg hm]; exact bigS_no (by omega) (by omega))
        · rw [fold_take (by omega)]
          first
            | (rw [insS, if_pos hm])
            | (rw [insS, if_neg hm])
        · rw [fold_take (by omega), rowS_step (by omega) hall, edsRow_snoc, ← List.append_assoc, idx_ins, rowS_len, htk]
          first
            | (rw [if_pos hm])
            | (rw [if_neg hm]))))) <;> (first | refine blockQ_ret ?_ | refine blockQ_ext ?_))))) <;> (first | refine thenQ_ret ?_ | (refine thenQ_nrm ?_; (refine W_seq ?_; (refine W_drw ?_; ((refine Da rfl rfl (X_mv rfl ?_)) <;> (refine Da rfl rfl (X_mv rfl ?_)) <;> (refine Da rfl rfl (xIa rfl rfl (by omega) (by omega) ?_)) <;> (refine Da rfl rfl (X_load (lEA rfl (by omega)) ?_)) <;> (refine Da rfl rfl (X_faddr rfl ?_)) <;> (refine Da rfl rfl (X_load (lB rfl rfl) ?_)) <;> (refine D_consR rfl (S_do rfl (xP (Of_ok lo (by assumption) (by assumption)) rfl (fun _ Z75 hz75 hq => ⟨(by (refine rDo rfl rfl (lEA rfl (by omega)) ?_); exact Rck_nil), ?_⟩))); (subst hq)) <;> (refine Da rfl rfl (xP (Meets7_ok lo (by assumption)) rfl (fun _ Z76 hz76 hb76 => ?_)); (obtain ⟨b76, rfl, hb76⟩ := hb76)) <;> (refine D_nil ?_))) <;> ((refine thenQ_nrm ?_; (refine W_cond rfl (fun ht => ?_) (fun ht => ?_) <;> (first | (refine W_rgn ?_; ((refine Ra rfl (X_faddr rfl ?_)) <;> (refine Ra rfl (X_load (lB rfl rfl) ?_)) <;> (refine Ra rfl (X_mv rfl ?_)) <;> (refine Ra rfl (X_bsliceC (pCons rfl Parts.nil) rfl rfl rfl (fun v80 => ?_))) <;> (refine Ra rfl (xApGm (fe := cI) (i : Int) rfl rfl rfl (by omega) (fun v81 => ?_))) <;> (refine Ra rfl (X_faddr rfl ?_)) <;> (refine Rn (xSB rfl rfl rfl rfl rfl ?_)) <;> (refine R_nil ?_))) | (refine W_skip ?_))))))))) <;> (first | refine blockQ_nrm ?_ | refine blockQ_ret ?_)) <;> (first | refine thenQ_ret ?_ | (refine thenQ_nrm ?_; (refine W_rgn ?_; ((refine Ra rfl (X_mv rfl ?_)) <;> (refine Ra rfl (X_addI rfl rfl (by omega) (by omega) ?_)) <;> (refine Ra rfl (X_mv rfl ?_)) <;> (refine R_nil ?_))))))))) <;> (first | refine thenQ_ret ?_ | refine thenQ_ext ?_ | (refine thenQ_nrm ?_; (
        have hb1 := bigS_false hbg
        have hc' : c = a.L.toNat := by omega
        subst hc'
        have e0 : (nextL a.ed (ord.getD i default) a.L.toNat).take a.L.toNat = nextL a.ed (ord.getD i default) a.L.toNat := List.take_of_length_le (by omega)
        rw [hgi] at hb76
        refine Upd.done ⟨(i + 1, (nextL a.ed (ord.getD i default) a.L.toNat).foldl insS ord, _, _, _), ?_, ?_, (by repeat' (first | exact trivial | exact rfl | constructor)), hG ?_ (hB rfl (hG ?_ (hG ?_ (hR rfl (hB rfl (hB rfl Has.nil))))))⟩
        · show 257 - (i + 1) < 257 - i
          omega
        · exact hI.next hA (by omega) (by rw [← e0]; exact hbg)
        · rw [e0]
        · rw [hI.ed_next (by omega), e0]
        · rw [hI.en_next (by omega) _ hb76, ht]
          first | rfl | simp)))) <;> (first | refine blockQ_ret ?_ | refine blockQ_ext ?_))))) <;> (first | refine thenQ_ret ?_ | (refine thenQ_nrm ?_; (refine W_seq ?_; (refine W_rgn ?_; ((refine Ra rfl (X_mv rfl ?_)) <;> (refine Ra rfl (xLen rfl ?_)) <;> (refine Ra rfl (X_faddr rfl ?_)) <;> (refine Rn (xSB rfl rfl rfl rfl rfl ?_)) <;> (refine R_nil ?_))) <;> ((refine thenQ_nrm ?_; (refine W_seq ?_; (refine W_rgn ?_; ((refine Ra rfl (X_load (lBA rfl rfl) ?_)) <;> (refine Rn (xSW rfl rfl rfl rfl ?_)) <;> (refine Ra rfl (X_mv rfl ?_)) <;> (refine R_nil ?_))) <;> ((refine thenQ_nrm ?_; (refine W_ret ?_)))))))))))))))))))
  <;> (refine fn_ret (rA rfl rfl (Res.tmp rfl Res.nil)) ?_)
  all_goals first
    | (exfalso; omega)
    | (have hb : bigS a.L.toNat (((nextL a.ed (ord.getD i default) a.L.toNat).take (c + 1)).foldl insS ord) = true := by
         rw [fold_take (by omega), insS, if_neg hm]
         exact bigS_true (by first | exact .inl (by omega) | exact .inr (by omega))
       have hN := hI.big_none (by omega) hb
       subst hN
       exact Upd.nil ⟨rfl, rfl⟩)
    | (obtain ⟨d1, d2, d3, d4⟩ := hI.done (by omega)
       subst d1
       rw [d3] at hel ⊢
       rw [d4] at hdl2 ⊢
       exact uA v12 fun Z7 hz7 f1 => uG ven fun Z8 hz8 f2 => uG ved fun Z9 hz9 f3 => Upd.nil ⟨rfl, d2, _, rfl, v12, ven, ved, rfl, f1.le (ZC.le), f2.le (ZC.le), f3, (by simp [detAu]), (by simp only [detAu]; omega), (by simp only [detAu]; omega)⟩)
end Go.Proofs.Ytbjgnogcjglcoaa.Hm.V
