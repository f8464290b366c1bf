import Derived.Test.YtbjgnogcjglcoaaHF
import Derived.Test.YtbjgnogcjglcoaaA6
import Derived.Test.YtbjgnogcjglcoaaVD0
namespace Go.Proofs.Ytbjgnogcjglcoaa.Hm.V
open Go
set_option linter.all false
set_option maxRecDepth 100000
attribute [local irreducible] X S R D W Call Upd Rds Rck Sees Res Cel CallP fnQ
section
variable {F : Nat → Option HFn} {lo N : Nat} {A : Tab} {Z : Vw} {O : List Pt} {K : Value → Vw → List Pt → Prop} {x y z : Operand} {v : Value} {f : Pt → List Pt} {g : List Pt}
theorem xLookS {ord : List Nat} {s : Nat} [t : AtM O v (assocS 0 ord) f g] (hm : evA A x = some v) (hk : evA A y = some (vS s)) (hs : s < 2 ^ 256) (hlt : ∀ m ∈ ord, m < 2 ^ 256) (kt : s ∈ ord → K (.tuple #[.int .i64 ((ord.idxOf s : Nat) : Int), .bool true]) Z O) (kf : s ∉ ord → K (.tuple #[.int .i64 0, .bool false]) Z O) :
    X F lo (.lookup dS (.int .i64 0) x y true) N A Z O K := by
  refine X_lookup hm hk t.out (keyOk_set s) (find_set hs ord 0 hlt) ?_
  by_cases h : s ∈ ord
  · simp only [h, if_true, Option.getD_some, Option.isSome_some, Nat.zero_add]; exact kt h
  · simp only [h, if_false, if_true, Option.getD_none, Option.isSome_none]; exact kf h
theorem xPutS {ord : List Nat} {s : Nat} [t : AtM O v (assocS 0 ord) f g] (hm : evA A x = some v) (hk : evA A y = some (vS s)) (hx : evA A z = some (.int .i64 ((ord.length : Nat) : Int))) (hs : s < 2 ^ 256) (hlt : ∀ m ∈ ord, m < 2 ^ 256) (hn : s ∉ ord) (k : K undef Z (f (.map v (assocS 0 (ord ++ [s]))))) :
    X F lo (.mput dS x y z) N A Z O K := by
  refine X_mput hm hk hx t.out (keyOk_set s) (place_set hs ord 0 0 hlt hn) ?_
  have := assocS_app s ord 0
  rw [Nat.zero_add] at this
  simp only [putM, this]
  exact k
end
def RowsZ (Z : Vw) (v : Value) (rows : List (List Int)) : Prop := ∃ ws : List Value, Fz Z 1 v (ws.map cV) ∧ ws.length = rows.length ∧ ∀ i, i < rows.length → Ints Z (ws.getD i undef) (rows.getD i default)
structure DetP (a : Au) (ord : List Nat) : Prop where
  start : ∃ t, ord = setOf a.st :: t
  nd : ord.Nodup
  lt : ∀ m ∈ ord, m < 2 ^ 256
  len : ord.length ≤ 256
  big : ord.length * a.L.toNat ≤ 200000
  cl : ∀ m ∈ ord, ∀ s ∈ nextL a.ed m a.L.toNat, s ∈ ord
def endsS (a : Au) (ord : List Nat) : List Bool := ord.map fun m => decide (m &&& setOf a.en ≠ 0)
def rowsS (a : Au) (ord : List Nat) : List (List Int) := ord.map fun m => rowS ord (nextL a.ed m a.L.toNat)
def setsQ (a : Au) (D : Option (List Nat)) (r : Value) (Z : Vw) (O : List Pt) : Prop := match D with
  | none => r = .tuple ⟨[.agg ⟨[.slice none 0 0, .slice none 0 0]⟩, .int .i64 5]⟩ ∧ O = []
  | some ord => DetP a ord ∧ ∃ vto ven, r = .tuple ⟨[.agg ⟨[vto, ven]⟩, .int .i64 0]⟩ ∧ O = [.gro ven 1 ((endsS a ord).map cB)] ∧ RowsZ Z vto (rowsS a ord)
structure SetsI (a : Au) (D : Option (List Nat)) (Z : Vw) (i : Nat) (ord : List Nat) (ws : List Value) (en : List Bool) : Prop where
  hi : i ≤ ord.length
  start : ∃ t, ord = setOf a.st :: t
  len : ord.length ≤ 256
  big : ord.length * a.L.toNat ≤ 200000
  hD : detS a.ed a.L.toNat (257 - i) i ord = D
  nd : ord.Nodup
  lt : ∀ m ∈ ord, m < 2 ^ 256
  cl : ∀ m ∈ ord.take i, ∀ s ∈ nextL a.ed m a.L.toNat, s ∈ ord
  wl : ws.length = i
  ws : ∀ j, j < i → Ints Z (ws.getD j undef) (rowS ord (nextL a.ed (ord.getD j default) a.L.toNat))
  en : en = (ord.take i).map fun m => decide (m &&& setOf a.en ≠ 0)
theorem getD_app {α : Type} [Inhabited α] {l t : List α} {i : Nat} (h : i < l.length) : (l ++ t).getD i default = l.getD i default := by
  rw [getD_eq (by rw [List.length_append]; omega), getD_eq h, List.getElem_append_left h]
theorem take_app_succ {α : Type} [Inhabited α] {l t : List α} {i : Nat} (h : i < l.length) : (l ++ t).take (i + 1) = l.take i ++ [l.getD i default] := by
  rw [List.take_append_of_le_length (by omega), List.take_succ, getD_at h]; rfl
theorem bigS_false {L : Nat} {ord : List Nat} (h : bigS L ord = false) : ord.length ≤ 256 ∧ ord.length * L ≤ 200000 := by
  simp only [bigS, Bool.or_eq_false_iff, decide_eq_false_iff_not] at h
  omega
theorem SetsI.next {a : Au} {D : Option (List Nat)} {Z Z' : Vw} {i : Nat} {ord : List Nat} {ws : List Value} {en : List Bool} {v : Value} {b : Bool} (hA : isAutoP a) (hI : SetsI a D Z i ord ws en) (hz : Z.le Z') (hlt : i < ord.length)
    (hbig : bigS a.L.toNat ((nextL a.ed (ord.getD i default) a.L.toNat).foldl insS ord) = false) (hf : Ints Z' v (rowS ((nextL a.ed (ord.getD i default) a.L.toNat).foldl insS ord) (nextL a.ed (ord.getD i default) a.L.toNat)))
    (hb : b = true ↔ ord.getD i default &&& setOf a.en ≠ 0) : SetsI a D Z' (i + 1) ((nextL a.ed (ord.getD i default) a.L.toNat).foldl insS ord) (ws ++ [v]) (en ++ [b]) := by
  obtain ⟨t, ht⟩ := fold_app ord (nextL a.ed (ord.getD i default) a.L.toNat)
  obtain ⟨b1, b2⟩ := bigS_false hbig
  have hcl : ∀ m ∈ ord.take i ++ [ord.getD i default], ∀ s ∈ nextL a.ed m a.L.toNat, s ∈ (nextL a.ed (ord.getD i default) a.L.toNat).foldl insS ord := fun m hm s hs => by
    rcases List.mem_append.1 hm with hm | hm
    · exact fold_sub (hI.cl m hm s hs)
    · rw [List.mem_singleton.1 hm] at hs
      exact fold_mem hs
  refine ⟨?_, ?_, b1, b2, ?_, fold_nodup hI.nd, fold_lt hI.lt (nextL_lt (isAuto_ed hA)), ?_, by simp [hI.wl], fun j hj => ?_, ?_⟩
  · rw [ht, List.length_append]; omega
  · obtain ⟨u, hu⟩ := hI.start
    exact ⟨u ++ t, by rw [ht, hu]; rfl⟩
  · have h2 := hI.len
    have e : 257 - i = (257 - (i + 1)) + 1 := by omega
    rw [← hI.hD, e, detS_step hlt hbig]
  · rw [ht, take_app_succ hlt, ← ht]; exact hcl
  · rcases Nat.lt_or_ge j i with h1 | h1
    · have e1 : (ws ++ [v]).getD j undef = ws.getD j undef := by
        rw [List.getD_eq_getElem?_getD, List.getElem?_append_left (by rw [hI.wl]; exact h1), List.getD_eq_getElem?_getD]
      have e2 : ((nextL a.ed (ord.getD i default) a.L.toNat).foldl insS ord).getD j default = ord.getD j default := by rw [ht, getD_app (by omega)]
      rw [e1, e2, rowS_fold (fun s hs => hI.cl _ (by
        rw [getD_eq (by omega : j < ord.length)]
        exact List.mem_take_iff_getElem.2 ⟨j, by omega, rfl⟩) s hs)]
      exact (hI.ws j h1).le hz
    · have : j = i := by omega
      subst this
      have e1 : (ws ++ [v]).getD j undef = v := by
        rw [List.getD_eq_getElem?_getD, List.getElem?_append_right (by rw [hI.wl]; exact Nat.le_refl _), hI.wl]; simp
      have e2 : ((nextL a.ed (ord.getD j default) a.L.toNat).foldl insS ord).getD j default = ord.getD j default := by rw [ht, getD_app hlt]
      rw [e1, e2]; exact hf
  · rw [ht, take_app_succ hlt, List.map_append, hI.en]
    congr 1
    simp only [List.map_cons, List.map_nil, List.cons.injEq, and_true]
    cases b
    · exact (decide_eq_false (fun hh => absurd (hb.2 hh) Bool.false_ne_true)).symm
    · exact (decide_eq_true (hb.1 rfl)).symm
theorem bigS_true {L : Nat} {ord : List Nat} (h : 256 < ord.length ∨ 200000 < ord.length * L) : bigS L ord = true := by
  simp only [bigS, Bool.or_eq_true, decide_eq_true_eq]; exact h
theorem bigS_no {L : Nat} {ord : List Nat} (h : ord.length ≤ 256) (h2 : ord.length * L ≤ 200000) : bigS L ord = false := by
  simp only [bigS, Bool.or_eq_false_iff, decide_eq_false_iff_not]; omega
theorem SetsI.big_none {a : Au} {D : Option (List Nat)} {Z : Vw} {i : Nat} {ord : List Nat} {ws : List Value} {en : List Bool} (hI : SetsI a D Z i ord ws en) (hlt : i < ord.length)
    (hbig : bigS a.L.toNat ((nextL a.ed (ord.getD i default) a.L.toNat).foldl insS ord) = true) : D = none := by
  have h2 := hI.len
  have e : 257 - i = (257 - (i + 1)) + 1 := by omega
  rw [← hI.hD, e, detS_big hlt hbig]
theorem SetsI.done {a : Au} {D : Option (List Nat)} {Z : Vw} {i : Nat} {ord : List Nat} {ws : List Value} {en : List Bool} (hI : SetsI a D Z i ord ws en) (hle : ord.length ≤ i) : D = some ord ∧ DetP a ord ∧ en = endsS a ord := by
  have h2 := hI.len
  have hi : i = ord.length := by have := hI.hi; omega
  subst hi
  have e : 257 - ord.length = (257 - (ord.length + 1)) + 1 := by omega
  have hcl := hI.cl
  have hen := hI.en
  rw [List.take_length] at hcl hen
  exact ⟨by rw [← hI.hD, e, detS_end (Nat.le_refl _)], ⟨hI.start, hI.nd, hI.lt, hI.len, hI.big, hcl⟩, hen⟩
end Go.Proofs.Ytbjgnogcjglcoaa.Hm.V
