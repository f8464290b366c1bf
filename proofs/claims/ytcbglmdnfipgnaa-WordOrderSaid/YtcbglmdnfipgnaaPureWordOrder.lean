/- WordOrder: for every width and all words, the law of package stereopsislaw01 answers true: ELt is a strict total order. No condition beside those of the statement. -/
import Derived.Test.YtcbglmdnfipgnaaPx9
import Derived.Test.YtcbglmdnfipgnaaL
namespace Go.Proofs.Ytcbglmdnfipgnaa.Pure
open Go Go.RowKit Go.Proofs.Ytcbglmdnfipgnaa.P Go.Proofs.Ytcbglmdnfipgnaa.L Go.Proofs.YtcbglmdnfipgnaaW.PrintWords Go.Proofs.YtcbglmdnfipgnaaW.PrintLast Go.Proofs.YtcbglmdnfipgnaaW.PrintMore Go.Proofs.Ytcbglmdnfipgnaa.WordBase

theorem do_law {op w a b : Int} (ha : W8 w a) (hb : W8 w b) (ho : IsOp op) {k : Nat} (hk : 4 ≤ k) : stereopsislaw01_do.f k op w a b = some (doS op w a b, true) := by
  unfold stereopsislaw01_do.f
  rw [do_f ha hb ho hk]
  rfl

theorem awake_j0 {k : Nat} (hk : 61 ≤ k) (w a b c : Int) : stereopsislaw01_WordOrder.j0 k w a b c true = some true := by
  obtain ⟨k, rfl⟩ : ∃ m, k = m + 1 := ⟨k - 1, by omega⟩
  simp only [stereopsislaw01_WordOrder.j0, if_true]
  rw [awake_f (by omega)]
  rfl

theorem lt_s (w a b : Int) : doS 14 w a b = if a < b then 1 else 0 := rfl
theorem eq_s (w a b : Int) : doS 13 w a b = if a = b then 1 else 0 := rfl

theorem order_j0 {k : Nat} (hk : 70 ≤ k) {w a b c : Int} (ha : W8 w a) (hb : W8 w b) (hc : W8 w c) : stereopsislaw01_WordOrder.j0 k w a b c false = some true := by
  obtain ⟨k, rfl⟩ : ∃ m, k = m + 1 := ⟨k - 1, by omega⟩
  have e1 := do_law ha hb (show IsOp 14 by decide) (k := k) (by omega)
  have e2 := do_law hb ha (show IsOp 14 by decide) (k := k) (by omega)
  have e3 := do_law hb hc (show IsOp 14 by decide) (k := k) (by omega)
  have e4 := do_law ha hc (show IsOp 14 by decide) (k := k) (by omega)
  have e5 := do_law ha hb (show IsOp 13 by decide) (k := k) (by omega)
  have ew := awake_f (k := k) (by omega)
  simp only [stereopsislaw01_WordOrder.j0]
  rw [if_neg (by decide), e1, e2, e3, e4, e5]
  simp only [Option.bind_some, if_true]
  rw [ew]
  simp only [Option.bind_some]
  have lt1 : ∀ {x y : Int}, x < y → doS 14 w x y = 1 := fun h => by rw [lt_s, if_pos h]
  have lt0 : ∀ {x y : Int}, ¬ x < y → doS 14 w x y = 0 := fun h => by rw [lt_s, if_neg h]
  have eq1 : ∀ {x y : Int}, x = y → doS 13 w x y = 1 := fun h => by rw [eq_s, if_pos h]
  have eq0 : ∀ {x y : Int}, ¬ x = y → doS 13 w x y = 0 := fun h => by rw [eq_s, if_neg h]
  have w1 : wrap64 (wrap64 (1 + 0) + 0) = 1 := by decide +kernel
  have w2 : wrap64 (wrap64 (0 + 1) + 0) = 1 := by decide +kernel
  have w3 : wrap64 (wrap64 (0 + 0) + 1) = 1 := by decide +kernel
  by_cases h1 : a < b
  · have hne : ¬ a = b := by omega
    have b2 : (a == b) = false := beq_eq_false_iff_ne.2 hne
    rw [lt1 h1, lt0 (show ¬ b < a by omega), eq0 hne, w1, b2]
    by_cases h2 : b < c
    · rw [lt1 h2, lt1 (show a < c by omega)]
      rfl
    · rw [lt0 h2]
      rfl
  · by_cases h2 : b < a
    · have hne : ¬ a = b := by omega
      have b2 : (a == b) = false := beq_eq_false_iff_ne.2 hne
      rw [lt0 h1, lt1 h2, eq0 hne, w2, b2]
      rfl
    · have he : a = b := by omega
      have b2 : (a == b) = true := by simp [he]
      rw [lt0 h1, lt0 h2, eq1 he, w3, b2]
      rfl

theorem WordOrder : stereopsislaw01_WordOrder.Pure := by
  intro w a b c _ _ _ _
  refine ⟨200, ?_⟩
  unfold stereopsislaw01_WordOrder.f
  rw [word_f w a (by omega), word_f w b (by omega), word_f w c (by omega)]
  simp only [Option.bind_some]
  by_cases ha : W8 w a
  · rw [if_pos (decide_eq_true ha)]
    by_cases hb : W8 w b
    · rw [if_pos (decide_eq_true hb)]
      by_cases hc : W8 w c
      · rw [decide_eq_true hc]
        exact order_j0 (by omega) ha hb hc
      · rw [decide_eq_false hc]
        exact awake_j0 (by omega) _ _ _ _
    · rw [if_neg (by simpa using hb)]
      exact awake_j0 (by omega) _ _ _ _
  · rw [if_neg (by simpa using ha)]
    exact awake_j0 (by omega) _ _ _ _

end Go.Proofs.Ytcbglmdnfipgnaa.Pure
