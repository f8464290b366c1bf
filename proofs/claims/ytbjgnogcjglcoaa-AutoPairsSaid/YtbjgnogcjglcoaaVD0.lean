import Derived.Test.YtbjgnogcjglcoaaHF
import Derived.Test.YtbjgnogcjglcoaaA6
import Derived.Test.YtbjgnogcjglcoaaVS3
namespace Go.Proofs.Ytbjgnogcjglcoaa.Hm.V
open Go
set_option linter.all false
set_option maxRecDepth 100000
attribute [local irreducible] X S R D W Call Upd Rds Rck Sees Res Cel CallP fnQ
def insS (ord : List Nat) (s : Nat) : List Nat := if s ∈ ord then ord else ord ++ [s]
def bigS (L : Nat) (ord : List Nat) : Bool := decide (256 < ord.length) || decide (200000 < ord.length * L)
def detS (g : List Ed) (L : Nat) : Nat → Nat → List Nat → Option (List Nat)
  | 0, _, _ => none
  | f + 1, i, ord => match ord[i]? with
    | none => some ord
    | some m => match bigS L ((nextL g m L).foldl insS ord) with
      | true => none
      | false => detS g L f (i + 1) ((nextL g m L).foldl insS ord)
theorem detS_end {g : List Ed} {L f i : Nat} {ord : List Nat} (h : ord.length ≤ i) : detS g L (f + 1) i ord = some ord := by
  unfold detS; rw [List.getElem?_eq_none h]
theorem detS_big {g : List Ed} {L f i : Nat} {ord : List Nat} (h : i < ord.length) (hb : bigS L ((nextL g (ord.getD i default) L).foldl insS ord) = true) : detS g L (f + 1) i ord = none := by
  unfold detS; rw [getD_at h]; simp only [hb]
theorem detS_step {g : List Ed} {L f i : Nat} {ord : List Nat} (h : i < ord.length) (hb : bigS L ((nextL g (ord.getD i default) L).foldl insS ord) = false) : detS g L (f + 1) i ord = detS g L f (i + 1) ((nextL g (ord.getD i default) L).foldl insS ord) := by
  rw [detS, getD_at h]; simp only [hb]
theorem insS_app (ord : List Nat) (s : Nat) : ∃ t, insS ord s = ord ++ t := by
  unfold insS; split
  · exact ⟨[], by simp⟩
  · exact ⟨[s], rfl⟩
theorem insS_mem (ord : List Nat) (s : Nat) : s ∈ insS ord s := by
  unfold insS; split
  · assumption
  · simp
theorem insS_of {ord : List Nat} {s x : Nat} (h : x ∈ insS ord s) : x ∈ ord ∨ x = s := by
  unfold insS at h; split at h
  · exact .inl h
  · simpa using h
theorem insS_nodup {ord : List Nat} {s : Nat} (h : ord.Nodup) : (insS ord s).Nodup := by
  unfold insS; split
  · exact h
  · rename_i hs
    rw [List.nodup_append]
    exact ⟨h, by simp, fun a ha b hb => by rw [List.mem_singleton.1 hb]; exact fun e => hs (e ▸ ha)⟩
theorem fold_app (ord : List Nat) : ∀ ss : List Nat, ∃ t, ss.foldl insS ord = ord ++ t := by
  intro ss
  induction ss generalizing ord with
  | nil => exact ⟨[], by simp⟩
  | cons s ss ih =>
    obtain ⟨t, ht⟩ := insS_app ord s
    obtain ⟨u, hu⟩ := ih (insS ord s)
    exact ⟨t ++ u, by rw [List.foldl_cons, hu, ht, List.append_assoc]⟩
theorem fold_sub {ord ss : List Nat} {x : Nat} (h : x ∈ ord) : x ∈ ss.foldl insS ord := by
  obtain ⟨t, ht⟩ := fold_app ord ss
  rw [ht]; exact List.mem_append_left _ h
theorem fold_mem {ss : List Nat} : ∀ {ord : List Nat} {s : Nat}, s ∈ ss → s ∈ ss.foldl insS ord := by
  induction ss with
  | nil => intro ord s h; simp at h
  | cons x ss ih =>
    intro ord s h
    rw [List.foldl_cons]
    rcases List.mem_cons.1 h with rfl | h
    · exact fold_sub (insS_mem _ _)
    · exact ih h
theorem fold_of {ss : List Nat} : ∀ {ord : List Nat} {x : Nat}, x ∈ ss.foldl insS ord → x ∈ ord ∨ x ∈ ss := by
  induction ss with
  | nil => intro ord x h; exact .inl h
  | cons s ss ih =>
    intro ord x h
    rcases ih h with h | h
    · rcases insS_of h with h | rfl
      · exact .inl h
      · exact .inr (by simp)
    · exact .inr (by simp [h])
theorem fold_nodup {ss : List Nat} : ∀ {ord : List Nat}, ord.Nodup → (ss.foldl insS ord).Nodup := by
  induction ss with
  | nil => intro ord h; exact h
  | cons s ss ih => intro ord h; exact ih (insS_nodup h)
theorem fold_lt {ss ord : List Nat} {B : Nat} (h : ∀ m ∈ ord, m < B) (hs : ∀ m ∈ ss, m < B) : ∀ m ∈ ss.foldl insS ord, m < B := fun m hm => by
  rcases fold_of hm with h1 | h1
  · exact h m h1
  · exact hs m h1
theorem nextL_lt {g : List Ed} {m L : Nat} (h : inEd g) : ∀ s ∈ nextL g m L, s < 2 ^ 256 := fun s hs => by
  obtain ⟨c, _, rfl⟩ := List.mem_map.1 hs
  exact stepTo_lt h
def rowS (ord ss : List Nat) : List Int := ss.map fun s => ((ord.idxOf s : Nat) : Int)
theorem rowS_app {ord ss t : List Nat} (h : ∀ s ∈ ss, s ∈ ord) : rowS (ord ++ t) ss = rowS ord ss := by
  unfold rowS
  apply List.map_congr_left
  intro s hs
  rw [List.idxOf_append, if_pos (h s hs)]
theorem rowS_fold {ord ss us : List Nat} (h : ∀ s ∈ ss, s ∈ ord) : rowS (us.foldl insS ord) ss = rowS ord ss := by
  obtain ⟨t, ht⟩ := fold_app ord us
  rw [ht, rowS_app h]
end Go.Proofs.Ytbjgnogcjglcoaa.Hm.V
