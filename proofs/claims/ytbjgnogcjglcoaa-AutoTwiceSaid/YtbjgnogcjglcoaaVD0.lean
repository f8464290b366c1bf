import Derived.Test.YtbjgnogcjglcoaaHF
import Derived.Test.YtbjgnogcjglcoaaA6
import Derived.Test.YtbjgnogcjglcoaaVS3
namespace Go.Proofs.Ytbjgnogcjglcoaa.Hm.V
open Go
set_option linter.all false
set_option maxRecDepth 100000
attribute [local irreducible] X S R D W Call Upd Rds Rck Sees Res Cel CallP fnQ
def insS (ord : List Nat) (s : Nat) : List Nat := if s ∈ ord then ord else ord ++ [s]
def bigS (L : Nat) (ord : List Nat) : Bool := decide (256 < ord.length) || decide (200000 < ord.length * L)
def detS (g : List Ed) (L : Nat) : Nat → Nat → List Nat → Option (List Nat)
  | 0, _, _ => none
  | f + 1, i, ord => match ord[i]? with
    | none => some ord
    | some m => match bigS L ((nextL g m L).foldl insS ord) with
      | true => none
      | false => detS g L f (i + 1) ((nextL g m L).foldl insS ord)
theorem detS_end {g : List Ed} {L f i : Nat} {ord : List Nat} (h : ord.length ≤ i) : detS g L (f + 1) i ord = some ord := by
  unfold detS; rw [List.getElem?_eq_none h]
theorem detS_big {g : List Ed} {L f i : Nat} {ord : List Nat} (h : i < ord.length) (hb : bigS L ((nextL g (ord.getD i default) L).foldl insS ord) = true) : detS g L (f + 1) i ord = none := by
  unfold detS; rw [getD_at h]; simp only [hb]
theorem detS_step {g : List Ed} {L f i : Nat} {ord : List Nat} (h : i < ord.length) (hb : bigS L ((nextL g (ord.getD i default) L).foldl insS ord) = false) : detS g L (f + 1) i ord = detS g L f (i + 1) ((nextL g (ord.getD i default) L).foldl insS ord) := by
  rw [detS, getD_at h]; simp only [hb]
theorem insS_app (ord : List Nat) (s : Nat) : ∃ t, insS ord s = ord ++ t := by
  unfold insS; split
  · exact ⟨[], by simp⟩
  · exact ⟨[s], rfl⟩
theorem insS_mem (ord : List Nat) (s : Nat) : s ∈ insS ord s := by
  unfold insS; split
  · assumption
  · simp
theorem insS_of {ord : List Nat} {s x : Nat} (h : x ∈ insS ord s) : x ∈ ord ∨ x = s := by
  unfold insS at h; split at h
  · exact .inl h
  · simpa using h
theorem insS_nodup {ord : List Nat} {s : Nat} (h : ord.Nodup) : (insS ord s).Nodup := by
  unfold insS; split
  · exact h
  · rename_i hs
    rw [List.nodup_append]
    exact ⟨h, by simp, fun a ha b hb => by rw [List.mem_singleton.1 hb]; exact fun e => hs (e ▸ ha)⟩
theorem fold_app (ord : List Nat) : ∀ ss : List Nat, ∃ t, ss.foldl insS ord = ord ++ t := by
  intro ss
  induction ss generalizing ord with
  | nil => exact ⟨[], by simp⟩
  | cons s ss ih =>
    obtain ⟨t, ht⟩ := insS_app ord s
    obtain ⟨u, hu⟩ := ih (insS ord s)
    exact ⟨t ++ u, by rw [List.foldl_cons, hu, ht, List.append_assoc]⟩
theorem fold_sub {ord ss : List Nat} {x : Nat} (h : x ∈ ord) : x ∈ ss.foldl insS ord := by
  obtain ⟨t, ht⟩ := fold_app ord ss
  rw [ht]; exact List.mem_append_left _ h
theorem fold_mem {ss : List Nat} : ∀ {ord : List Nat} {s : Nat}, s ∈ ss → s ∈ ss.foldl insS ord := by
  induction ss with
  | nil => intro ord s h; simp at h
  | cons x ss ih =>
    intro ord s h
    rw [List.foldl_cons]
    rcases List.mem_cons.1 h with rfl | h
    · exact fold_sub (insS_mem _ _)
    · exact ih h
theorem fold_of {ss : List Nat} : ∀ {ord : List Nat} {x : Nat}, x ∈ ss.foldl insS ord → x ∈ ord ∨ x ∈ ss := by
  induction ss with
  | nil => intro ord x h; exact .inl h
  | cons s ss ih =>
    intro ord x h
    rcases ih h with h | h
    · rcases insS_of h with h | rfl
      · exact .inl h
      · exact .inr (by simp)
    · exact .inr (by simp [h])
theorem fold_nodup {ss : List Nat} : ∀ {ord : List Nat}, ord.Nodup → (ss.foldl insS ord).Nodup := by
  induction ss with
  | nil => intro ord h; exact h
  | cons s ss ih => intro ord h; exact ih (insS_nodup h)
theorem fold_lt {ss ord : List Nat} {B : Nat} (h : ∀ m ∈ ord, m < B) (hs : ∀ m ∈ ss, m < B) : ∀ m ∈ ss.foldl insS ord, m < B := fun m hm => by
  rcases fold_of hm with h1 | h1
  · exact h m h1
  · exact hs m h1
theorem fold_take {ss ord : List Nat} {c : Nat} (h : c < ss.length) : (ss.take (c + 1)).foldl insS ord = insS ((ss.take c).foldl insS ord) (ss.getD c default) := foldl_take h
theorem nextL_lt {g : List Ed} {m L : Nat} (h : inEd g) : ∀ s ∈ nextL g m L, s < 2 ^ 256 := fun s hs => by
  obtain ⟨c, _, rfl⟩ := List.mem_map.1 hs
  exact stepTo_lt h
def rowS (ord ss : List Nat) : List Int := ss.map fun s => ((ord.idxOf s : Nat) : Int)
theorem rowS_len (ord ss : List Nat) : (rowS ord ss).length = ss.length := by simp [rowS]
theorem rowS_app {ord ss t : List Nat} (h : ∀ s ∈ ss, s ∈ ord) : rowS (ord ++ t) ss = rowS ord ss := by
  unfold rowS
  apply List.map_congr_left
  intro s hs
  rw [List.idxOf_append, if_pos (h s hs)]
theorem rowS_fold {ord ss us : List Nat} (h : ∀ s ∈ ss, s ∈ ord) : rowS (us.foldl insS ord) ss = rowS ord ss := by
  obtain ⟨t, ht⟩ := fold_app ord us
  rw [ht, rowS_app h]
theorem idx_ins {ord : List Nat} {s : Nat} : (insS ord s).idxOf s = if s ∈ ord then ord.idxOf s else ord.length := by
  unfold insS
  split
  · rfl
  · rename_i h
    rw [List.idxOf_append, if_neg h]; simp
def partRow (ord ss : List Nat) (c L : Nat) : List Int := rowS ord (ss.take c) ++ List.replicate (L - c) 0
theorem partRow_len {ord ss : List Nat} {c L : Nat} (h : c ≤ L) (hs : ss.length = L) : (partRow ord ss c L).length = L := by
  simp [partRow, rowS]; omega
theorem partRow_zero (ord ss : List Nat) (L : Nat) : partRow ord ss 0 L = List.replicate L 0 := by simp [partRow, rowS]
theorem partRow_all {ord ss : List Nat} {L : Nat} (hs : ss.length = L) : partRow ord ss L L = rowS ord ss := by
  unfold partRow
  rw [Nat.sub_self, ← hs, List.take_length]; simp
theorem partRow_step {ord ss : List Nat} {c L : Nat} (hs : ss.length = L) (h : c < L) (hall : ∀ s ∈ ss.take c, s ∈ ord) :
    (partRow ord ss c L).set c (((insS ord (ss.getD c default)).idxOf (ss.getD c default) : Nat) : Int) = partRow (insS ord (ss.getD c default)) ss (c + 1) L := by
  have hl : (rowS ord (ss.take c)).length = c := by rw [rowS_len, List.length_take]; omega
  have e1 : L - c = (L - (c + 1)) + 1 := by omega
  unfold partRow
  rw [List.set_append_right _ _ (by omega), hl, Nat.sub_self, e1, List.replicate_succ, List.set_cons_zero, List.take_succ, getD_at (by omega : c < ss.length)]
  obtain ⟨t, ht⟩ := insS_app ord (ss.getD c default)
  have e2 : rowS (insS ord (ss.getD c default)) (ss.take c) = rowS ord (ss.take c) := by rw [ht, rowS_app hall]
  have e3 : rowS (insS ord (ss.getD c default)) (ss.take c ++ (some (ss.getD c default)).toList) = rowS (insS ord (ss.getD c default)) (ss.take c) ++ [(((insS ord (ss.getD c default)).idxOf (ss.getD c default) : Nat) : Int)] := by simp [rowS]
  rw [e3, e2, List.append_assoc]; rfl
def dS : EqD := .cells 4 [(0, .int), (1, .int), (2, .int), (3, .int)]
theorem eqv_set {m m' : Nat} (h : m < 2 ^ 256) (h' : m' < 2 ^ 256) : eqv dS (vS m) (vS m') = some (decide (m = m')) := by
  have hcore : eqv dS (vS m) (vS m') = some (decide (wd m 0 = wd m' 0 ∧ wd m 1 = wd m' 1 ∧ wd m 2 = wd m' 2 ∧ wd m 3 = wd m' 3)) := by
    simp only [eqv, dS, vS, cS, cW, List.length_cons, List.length_nil, and_self, if_true]
    simp only [eqcells, List.getElem?_cons_zero, List.getElem?_cons_succ, veq0, if_true]
    have hb : ∀ a b : Nat, (((a : Nat) : Int) == ((b : Nat) : Int)) = decide (a = b) := fun a b => by
      by_cases h : a = b
      · subst h; simp
      · rw [decide_eq_false h, beq_eq_false_iff_ne]; omega
    simp only [hb]
    by_cases h0 : wd m 0 = wd m' 0 <;> by_cases h1 : wd m 1 = wd m' 1 <;> by_cases h2 : wd m 2 = wd m' 2 <;> by_cases h3 : wd m 3 = wd m' 3 <;> simp [h0, h1, h2, h3]
  rw [hcore]
  congr 1
  rw [decide_eq_decide]
  constructor
  · rintro ⟨h0, h1, h2, h3⟩
    refine wd_eq h h' fun i hi => ?_
    match i, hi with
    | 0, _ => exact h0
    | 1, _ => exact h1
    | 2, _ => exact h2
    | 3, _ => exact h3
  · rintro rfl; exact ⟨rfl, rfl, rfl, rfl⟩
theorem keyOk_set (m : Nat) : keyOk dS (vS m) = true := by
  simp [keyOk, dS, vS, cS, cW, veq0]
def assocS : Nat → List Nat → List (Value × Value)
  | _, [] => []
  | k, m :: ms => (vS m, .int .i64 (k : Int)) :: assocS (k + 1) ms
theorem assocS_app (s : Nat) : ∀ (ord : List Nat) (k : Nat), assocS k ord ++ [(vS s, .int .i64 ((k + ord.length : Nat) : Int))] = assocS k (ord ++ [s])
  | [], k => by simp [assocS]
  | m :: ms, k => by
    have := assocS_app s ms (k + 1)
    simp only [assocS, List.cons_append, List.length_cons]
    rw [← this, show k + 1 + ms.length = k + (ms.length + 1) by omega]
theorem find_set {s : Nat} (hs : s < 2 ^ 256) : ∀ (ord : List Nat) (k : Nat), (∀ m ∈ ord, m < 2 ^ 256) → findM dS (vS s) (assocS k ord) = some (if s ∈ ord then some (.int .i64 ((k + ord.idxOf s : Nat) : Int)) else none)
  | [], k, _ => by simp [assocS, findM]
  | m :: ms, k, h => by
    simp only [assocS, findM, eqv_set hs (h m (by simp))]
    by_cases e : s = m
    · subst e; simp
    · have ih := find_set hs ms (k + 1) fun x hx => h x (by simp [hx])
      have e' : ¬ m = s := fun h => e h.symm
      simp only [e, decide_false]
      rw [ih]
      by_cases hm : s ∈ ms
      · simp only [hm, if_true, List.mem_cons, or_true, Option.some.injEq, Value.int.injEq, true_and]
        rw [List.idxOf_cons]
        simp only [beq_eq_false_iff_ne.2 e', cond_false]
        omega
      · simp [hm, e]
theorem place_set {s : Nat} (hs : s < 2 ^ 256) : ∀ (ord : List Nat) (k i : Nat), (∀ m ∈ ord, m < 2 ^ 256) → s ∉ ord → placeM dS (vS s) (assocS k ord) i = some none
  | [], k, i, _, _ => by simp [assocS, placeM]
  | m :: ms, k, i, h, hn => by
    have e : ¬ s = m := fun e => hn (by simp [e])
    simp only [assocS, placeM, eqv_set hs (h m (by simp)), e, decide_false]
    exact place_set hs ms (k + 1) (i + 1) (fun x hx => h x (by simp [hx])) fun hx => hn (by simp [hx])
end Go.Proofs.Ytbjgnogcjglcoaa.Hm.V
