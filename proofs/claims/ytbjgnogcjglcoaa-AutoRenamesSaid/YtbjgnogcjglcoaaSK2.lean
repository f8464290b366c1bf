/- Of layer 27: the edges that the library sorts: triples of numbers that are not too great; their order. -/
import Derived.Test.YtbjgnogcjglcoaaA4
import Derived.Sort.Statements
import Derived.Shelf.GgSortFunc.RowK
namespace Go.Proofs.Ytbjgnogcjglcoaa.Hm
open Go Go.Sort Go.RowKit
set_option linter.all false
def cfE (xf xl xt yf yl yt : Int) : Int := if xf = yf then (if xl = yl then wrap64 (xt - yt) else wrap64 (xl - yl)) else wrap64 (xf - yf)
def fineT (x : Int × Int × Int) : Prop := 0 ≤ x.1 ∧ x.1 < 4611686018427387904 ∧ 0 ≤ x.2.1 ∧ x.2.1 < 4611686018427387904 ∧ 0 ≤ x.2.2 ∧ x.2.2 < 4611686018427387904
instance (x : Int × Int × Int) : Decidable (fineT x) := by unfold fineT; infer_instance
abbrev FT := {x : Int × Int × Int // fineT x}
instance : Inhabited FT := ⟨⟨(0, 0, 0), by decide⟩⟩
def encT (x : FT) : List Value := [.int .i64 x.1.1, .int .i64 x.1.2.1, .int .i64 x.1.2.2]
def cfT (x y : FT) : Int := cfE x.1.1 x.1.2.1 x.1.2.2 y.1.1 y.1.2.1 y.1.2.2
def ltT (x y : FT) : Prop := x.1.1 < y.1.1 ∨ (x.1.1 = y.1.1 ∧ (x.1.2.1 < y.1.2.1 ∨ (x.1.2.1 = y.1.2.1 ∧ x.1.2.2 < y.1.2.2)))
theorem cfT_lt (x y : FT) : cfT x y < 0 ↔ ltT x y := by
  obtain ⟨⟨a, b, c⟩, h1, h2, h3, h4, h5, h6⟩ := x
  obtain ⟨⟨d, e, f⟩, k1, k2, k3, k4, k5, k6⟩ := y
  simp only at h1 h2 h3 h4 h5 h6 k1 k2 k3 k4 k5 k6
  simp only [cfT, cfE, ltT, wrap64]
  split
  · split <;> omega
  · omega
theorem cfT_dec (x y : FT) : decide (cfT x y < 0) = true ↔ ltT x y := by rw [decide_eq_true_eq, cfT_lt]
theorem cfT_no (x y : FT) (h : decide (cfT x y < 0) = false) : ¬ ltT x y := fun hh => absurd ((cfT_dec _ _).2 hh) (by rw [h]; exact Bool.false_ne_true)
theorem ltT_swo : SWO (fun x y : FT => decide (cfT x y < 0)) where
  irrefl x := by rw [Bool.eq_false_iff]; intro h; have := (cfT_dec _ _).1 h; unfold ltT at this; omega
  trans x y z h1 h2 := by
    have h1 := (cfT_dec _ _).1 h1
    have h2 := (cfT_dec _ _).1 h2
    refine (cfT_dec _ _).2 ?_
    unfold ltT at *; omega
  ntrans x y z h1 h2 := by
    have h1 := cfT_no _ _ h1
    have h2 := cfT_no _ _ h2
    rw [Bool.eq_false_iff]
    intro h
    have h := (cfT_dec _ _).1 h
    revert h1 h2 h
    unfold ltT
    omega
theorem ltT_total (x y : FT) (h1 : decide (cfT x y < 0) = false) (h2 : decide (cfT y x < 0) = false) : x = y := by
  have h1 := cfT_no _ _ h1
  have h2 := cfT_no _ _ h2
  obtain ⟨⟨a, b, c⟩, hx⟩ := x
  obtain ⟨⟨d, e, f⟩, hy⟩ := y
  revert h1 h2
  unfold ltT
  intro h1 h2
  have : a = d ∧ b = e ∧ c = f := by simp only at h1 h2; omega
  obtain ⟨rfl, rfl, rfl⟩ := this
  rfl
end Go.Proofs.Ytbjgnogcjglcoaa.Hm
