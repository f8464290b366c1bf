import Derived.Test.YtbjgnogcjglcoaaHF
import Derived.Test.YtbjgnogcjglcoaaA6
import Derived.Test.YtbjgnogcjglcoaaVN2
import Derived.Test.YtbjgnogcjglcoaaSA
namespace Go.Proofs.Ytbjgnogcjglcoaa.Hm.V
open Go
set_option linter.all false
set_option maxRecDepth 100000
attribute [local irreducible] X S R D W Call Upd Rds Rck Sees Res Cel CallP fnQ
theorem setOf_mem {l m : List Int} (h : ∀ x, x ∈ l ↔ x ∈ m) : setOf l = setOf m := bit_ext fun t => by
  rw [setOf_bit, setOf_bit]
  exact ⟨fun ⟨x, hx, e⟩ => ⟨x, (h x).1 hx, e⟩, fun ⟨x, hx, e⟩ => ⟨x, (h x).2 hx, e⟩⟩
theorem stepTo_mem {g k : List Ed} (h : ∀ x, x ∈ g ↔ x ∈ k) (m : Nat) (c : Int) : stepTo g m c = stepTo k m c := bit_ext fun t => by
  rw [stepTo_bit, stepTo_bit]
  exact ⟨fun ⟨x, hx, e⟩ => ⟨x, (h x).1 hx, e⟩, fun ⟨x, hx, e⟩ => ⟨x, (h x).2 hx, e⟩⟩
theorem runW_mem {a b : Au} (hs : ∀ x, x ∈ a.st ↔ x ∈ b.st) (hg : ∀ x, x ∈ a.ed ↔ x ∈ b.ed) (w : List Int) : runW a w = runW b w := by
  unfold runW
  rw [setOf_mem hs, show (fun m c => stepTo a.ed m c) = fun m c => stepTo b.ed m c from funext fun m => funext fun c => stepTo_mem hg m c]
theorem agr_mem {a b : Au} {vs ve vg xs xe xg : Value} (hs : ∀ x, x ∈ a.st ↔ x ∈ b.st) (he : ∀ x, x ∈ a.en ↔ x ∈ b.en) (hg : ∀ x, x ∈ a.ed ↔ x ∈ b.ed) : Agr ([⟨a, vs, ve, vg⟩] ++ [⟨b, xs, xe, xg⟩]) 0 := fun w hw => by
  show decide (runW a w &&& setOf a.en ≠ 0) = decide (runW b w &&& setOf b.en ≠ 0)
  rw [runW_mem hs hg, setOf_mem he]
def fineE (x : Ed) : Prop := fineT (x.f, x.l, x.t)
def toFT (x : Ed) : FT := if h : fineT (x.f, x.l, x.t) then ⟨(x.f, x.l, x.t), h⟩ else default
def ofFT (x : FT) : Ed := ⟨x.1.1, x.1.2.1, x.1.2.2⟩
theorem of_to {x : Ed} (h : fineE x) : ofFT (toFT x) = x := by unfold toFT; rw [dif_pos (show fineT (x.f, x.l, x.t) from h)]; rfl
theorem enc_of (x : FT) : encT x = (ofFT x).c := rfl
def fines (l : List Ed) : Prop := ∀ x ∈ l, fineE x
theorem map_fine {l : List Ed} (h : fines l) : l.map Ed.c = (l.map toFT).map encT := by
  rw [List.map_map]
  exact List.map_congr_left fun x hx => by show x.c = encT (toFT x); rw [enc_of, of_to (h x hx)]
theorem map_enc (l : List FT) : l.map encT = (l.map ofFT).map Ed.c := by rw [List.map_map]; rfl
def sortE (l : List Ed) : List FT := (l.map toFT).mergeSort leT
def doneE (l : List Ed) : List Ed := (cpt (sortE l) l.length).map ofFT
theorem sortE_len (l : List Ed) : (sortE l).length = l.length := by unfold sortE; rw [List.length_mergeSort, List.length_map]
theorem doneE_len (l : List Ed) : (doneE l).length ≤ l.length := by unfold doneE; rw [List.length_map]; exact cpt_len _ _
theorem doneE_mem {l : List Ed} (h : fines l) {x : Ed} : x ∈ doneE l ↔ x ∈ l := by
  unfold doneE
  rw [List.mem_map]
  constructor
  · rintro ⟨y, hy, rfl⟩
    obtain ⟨j, hj, rfl⟩ := cpt_mem.1 hy
    have h1 : (sortE l).getD j default ∈ sortE l := getD_mem (by rw [sortE_len]; exact hj)
    obtain ⟨z, hz, e⟩ := List.mem_map.1 (sortT_mem.1 h1)
    rw [← e, of_to (h z hz)]; exact hz
  · intro hx
    have h1 : toFT x ∈ sortE l := sortT_mem.2 (List.mem_map.2 ⟨x, hx, rfl⟩)
    obtain ⟨j, hj, e⟩ := List.getElem_of_mem h1
    refine ⟨toFT x, cpt_mem.2 ⟨j, by rw [sortE_len] at hj; exact hj, by rw [getD_eq hj]; exact e⟩, of_to (h x hx)⟩
theorem pw_at {α : Type} [Inhabited α] {r : α → α → Prop} {l : List α} (h : l.Pairwise r) {i j : Nat} (hij : i < j) (hj : j < l.length) : r (l.getD i default) (l.getD j default) := by
  rw [getD_eq (by omega), getD_eq hj]
  exact List.pairwise_iff_getElem.1 h i j (by omega) hj hij
theorem doneE_lt (l : List Ed) : (doneE l).Pairwise Ed.lt := by
  have h1 : (cpt (sortE l) l.length).Pairwise ltT := cpt_strict (fun j k hj hk => pw_at (sortT_sorted _) hj hk) (fun a b h1 h2 => ltT_total a b (by rw [Bool.eq_false_iff]; exact fun h => h1 ((cfT_dec _ _).1 h)) (by rw [Bool.eq_false_iff]; exact fun h => h2 ((cfT_dec _ _).1 h))) (fun a b c => by unfold ltT; omega) _ (Nat.le_of_eq (sortE_len l).symm)
  exact List.pairwise_map.2 (h1.imp fun h => h)
def edsIn (S L : Int) (g : List Ed) : Prop := ∀ x ∈ g, 0 ≤ x.f ∧ x.f < S ∧ 0 ≤ x.t ∧ x.t < S ∧ 0 ≤ x.l ∧ x.l < L
theorem edsIn.fine {S L : Int} {g : List Ed} (h : edsIn S L g) (h1 : S ≤ 256) (h3 : L ≤ 1024) : fines g := fun x hx => by
  obtain ⟨a, b, c, d, e, f⟩ := h x hx
  unfold fineE fineT
  dsimp only
  omega
theorem edsIn.of {a : Au} (h : isAutoP a) : edsIn a.S a.L a.ed := fun x hx => by
  obtain ⟨j, hj, rfl⟩ := List.getElem_of_mem hx
  have h1 := h.2.2.2.2.2.2.2 j hj
  rw [edOk, getD_eq hj] at h1
  omega
theorem isAuto_done {S L : Int} {st en : List Int} {g : List Ed} (h0 : 0 ≤ S) (h1 : S ≤ 256) (h2 : 1 ≤ L) (h3 : L ≤ 1024) (hn : (g.length : Int) ≤ 200000) (hst : risingP st S) (hen : risingP en S) (hg : edsIn S L g) : isAutoP ⟨S, L, st, en, doneE g⟩ := by
  have hl := doneE_len g
  refine ⟨h0, h1, h2, h3, ?_, hst, hen, fun i hi => ?_⟩
  · show ((doneE g).length : Int) ≤ 200000
    omega
  · have hi : i < (doneE g).length := hi
    obtain ⟨a, b, c, d, e, f⟩ := hg _ ((doneE_mem (hg.fine h1 h3)).1 (getD_mem hi))
    exact ⟨a, b, c, d, e, f, fun hp => pw_at (doneE_lt g) (by omega) hi⟩
theorem okL_un {S L : Int} {st en : List Int} {g : List Ed} (h0 : 0 ≤ S) (h1 : S ≤ 256) (h2 : 1 ≤ L) (h3 : L ≤ 1024) (hst : risingP st S) (hen : risingP en S) (hg : edsIn S L g) : okL ⟨S, L, st, en, g⟩ :=
  ⟨h2, h3, fun i hi => by obtain ⟨q1, q2, _⟩ := hst i hi; exact ⟨q1, by show st.getD i default < 256; omega⟩, fun i hi => by obtain ⟨q1, q2, _⟩ := hen i hi; exact ⟨q1, by show en.getD i default < 256; omega⟩, fun i hi => by
    obtain ⟨a, b, c, d, e, f⟩ := hg _ (getD_mem (show i < g.length from hi))
    show 0 ≤ (g.getD i default).f ∧ (g.getD i default).f < 256 ∧ 0 ≤ (g.getD i default).t ∧ (g.getD i default).t < 256
    omega⟩
theorem eqv_FT (x y : FT) : eqv (.cells 3 [(0, .int), (1, .int), (2, .int)]) (.agg ⟨encT x⟩) (.agg ⟨encT y⟩) = some (decide (x = y)) := by
  obtain ⟨⟨a, b, c⟩, hx⟩ := x
  obtain ⟨⟨d, e, f⟩, hy⟩ := y
  by_cases h1 : a = d
  · by_cases h2 : b = e
    · by_cases h3 : c = f
      · subst h1; subst h2; subst h3
        simp [eqv, eqcells, encT, veq0]
      · simp [eqv, eqcells, encT, veq0, h1, h2, h3]
    · simp [eqv, eqcells, encT, veq0, h1, h2]
  · simp [eqv, eqcells, encT, veq0, h1]
end Go.Proofs.Ytbjgnogcjglcoaa.Hm.V
