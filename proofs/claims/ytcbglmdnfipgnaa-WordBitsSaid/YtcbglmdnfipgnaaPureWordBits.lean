/- WordBits: for every width, word and list of bits, the law of package stereopsislaw01 answers true: Bits and Of of the program are those of the definition, or the error. No condition beside those of the statement. -/
import Derived.Test.YtcbglmdnfipgnaaLLWordBits
namespace Go.Proofs.Ytcbglmdnfipgnaa.Pure
open Go Go.RowKit Go.Proofs.Ytcbglmdnfipgnaa.PWordBits Go.Proofs.Ytcbglmdnfipgnaa.LWordBits Go.Proofs.YtcbglmdnfipgnaaW.PrintWords Go.Proofs.YtcbglmdnfipgnaaW.PrintLast Go.Proofs.YtcbglmdnfipgnaaW.PrintMore Go.Proofs.Ytcbglmdnfipgnaa.WordBase

theorem loop_l0 (l : List Int) (hm : l.length ≤ maxLen) (K : Nat) (d : Nat) : ∀ (k : Nat) (i : Int) (b : Bool), 0 ≤ i → i ≤ l.length → (l.length : Int) - i = d → K + d < k →
    ∃ k', K ≤ k' ∧ stereopsislaw01_WordBits.l0 k l b i = stereopsislaw01_WordBits.j3 k' l (b && decide (Bit01 (l.drop i.toNat))) := by
  unfold maxLen at hm
  induction d with
  | zero =>
    intro k i b h0 hi hd hk
    obtain ⟨k, rfl⟩ : ∃ m, k = m + 1 := ⟨k - 1, by omega⟩
    refine ⟨k, by omega, ?_⟩
    simp only [stereopsislaw01_WordBits.l0]
    rw [if_neg (by omega), List.drop_of_length_le (by omega)]
    simp [Bit01]
  | succ d ih =>
    intro k i b h0 hi hd hk
    obtain ⟨k, rfl⟩ : ∃ m, k = m + 1 := ⟨k - 1, by omega⟩
    have hlt : i < (l.length : Int) := by omega
    obtain ⟨x, r, e1, e2, e3⟩ := rd_at h0 hlt
    simp only [stereopsislaw01_WordBits.l0]
    rw [if_pos hlt]
    cases b with
    | false =>
      rw [if_neg (by decide)]
      exact ⟨k, by omega, by simp⟩
    | true =>
      rw [if_pos rfl, if_pos h0, e2, wrap64_id (by omega) (by omega)]
      by_cases hx : x = 0
      · rw [if_pos hx]
        obtain ⟨k', hk', e⟩ := ih k (i + 1) true (by omega) (by omega) (by omega) (by omega)
        refine ⟨k', hk', ?_⟩
        rw [e, e3, e1]
        simp [Bit01, hx]
      · rw [if_neg hx]
        obtain ⟨k', hk', e⟩ := ih k (i + 1) (x == 1) (by omega) (by omega) (by omega) (by omega)
        refine ⟨k', hk', ?_⟩
        rw [e, e3, e1]
        congr 1
        by_cases h1 : x = 1
        · simp [Bit01, h1]
        · simp [Bit01, h1, hx]

theorem j3_true (l : List Int) (b : Bool) (hb : b = decide (GoodBits l)) {k : Nat} (hk : 130 ≤ k) : stereopsislaw01_WordBits.j3 k l b = some true := by
  obtain ⟨k, rfl⟩ : ∃ m, k = m + 1 := ⟨k - 1, by omega⟩
  simp only [stereopsislaw01_WordBits.j3]
  rw [of_f l (by omega)]
  simp only [Option.bind_some]
  by_cases h : GoodBits l
  · rw [hb, if_pos (decide_eq_true h), if_pos h, rof_f l (by have := h.1; omega) h.2 (by omega)]
    simp only [Option.bind_some, if_true]
    rw [awake_f (by omega)]
    rfl
  · rw [hb, if_neg (by simpa using h), if_neg h, if_pos rfl, if_pos rfl, awake_f (by omega)]
    rfl

theorem j0_true (l : List Int) (hm : l.length ≤ maxLen) {k : Nat} (hk : 140 + l.length ≤ k) : stereopsislaw01_WordBits.j0 k l = some true := by
  obtain ⟨k, rfl⟩ : ∃ m, k = m + 2 := ⟨k - 2, by omega⟩
  have go : ∀ b : Bool, b = decide (1 ≤ l.length ∧ l.length ≤ 8) → stereopsislaw01_WordBits.j1 (k + 1) l b = some true := by
    intro b hb
    simp only [stereopsislaw01_WordBits.j1]
    obtain ⟨k', hk', e⟩ := loop_l0 l hm 135 l.length k 0 b (by omega) (by omega) (by omega) (by omega)
    rw [e]
    refine j3_true l _ ?_ (by omega)
    rw [hb]
    simp only [Int.toNat_zero, List.drop_zero]
    simp [GoodBits]
  show (if (l.length : Int) ≥ 1 then stereopsislaw01_WordBits.j1 (k + 1) l (decide ((l.length : Int) ≤ 8)) else stereopsislaw01_WordBits.j1 (k + 1) l false) = some true
  by_cases h1 : (l.length : Int) ≥ 1
  · rw [if_pos h1]
    refine go _ ?_
    apply decide_eq_decide.2
    omega
  · rw [if_neg h1]
    refine go _ ?_
    symm
    apply decide_eq_false
    omega

theorem WordBits : stereopsislaw01_WordBits.Pure := by
  intro w a l _ _ hm _ _
  refine ⟨200 + l.length, ?_⟩
  unfold stereopsislaw01_WordBits.f
  rw [word_f w a (by omega)]
  by_cases h : W8 w a
  · rw [bits_f h (by omega)]
    simp only [Option.bind_some]
    rw [if_pos (decide_eq_true h), rbits_f h (by omega)]
    simp only [Option.bind_some]
    have h8 := h.2.1
    rw [same_f _ _ (by rw [bitsFrom_length]; unfold maxLen; omega) (by rw [bitsFrom_length]; omega)]
    simp only [Option.bind_some]
    rw [if_pos (by simp)]
    simp only [if_true]
    exact j0_true l hm (by omega)
  · rw [bits_no h (by omega)]
    simp only [Option.bind_some]
    rw [if_neg (by simpa using h)]
    simp only [List.length_nil, Int.ofNat_zero, if_true]
    exact j0_true l hm (by omega)

end Go.Proofs.Ytcbglmdnfipgnaa.Pure
