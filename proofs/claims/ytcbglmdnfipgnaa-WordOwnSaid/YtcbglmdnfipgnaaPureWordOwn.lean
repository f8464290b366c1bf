/- WordOwn: for every width, word and list of bits, the law of package stereopsislaw01 answers true: Bits and Of leave their arguments alone and hand back memory of their own. No condition beside those of the statement. -/
import Derived.Test.YtcbglmdnfipgnaaPx11
import Derived.Test.YtcbglmdnfipgnaaLL
namespace Go.Proofs.Ytcbglmdnfipgnaa.Pure
open Go Go.RowKit Go.Proofs.Ytcbglmdnfipgnaa.P Go.Proofs.Ytcbglmdnfipgnaa.L Go.Proofs.YtcbglmdnfipgnaaW.PrintWords Go.Proofs.YtcbglmdnfipgnaaW.PrintLast Go.Proofs.YtcbglmdnfipgnaaW.PrintMore Go.Proofs.Ytcbglmdnfipgnaa.WordBase

theorem copy_l0 (l : List Int) (hl : l.length * 8 ≤ 140737488351232) (d : Nat) : ∀ (k : Nat) (i : Int), 0 ≤ i → i ≤ l.length → (l.length : Int) - i = d → d < k →
    stereopsisref01_Copy.l0 k l (l.take i.toNat) i = some l := by
  induction d with
  | zero =>
    intro k i h0 hi hd hk
    obtain ⟨k, rfl⟩ : ∃ m, k = m + 1 := ⟨k - 1, by omega⟩
    simp only [stereopsisref01_Copy.l0]
    rw [if_neg (by omega), List.take_of_length_le (by omega)]
  | succ d ih =>
    intro k i h0 hi hd hk
    obtain ⟨k, rfl⟩ : ∃ m, k = m + 1 := ⟨k - 1, by omega⟩
    have hlt : i < (l.length : Int) := by omega
    have hlen : (l.take i.toNat).length < 17592186044416 := by
      rw [List.length_take]
      omega
    have e : l.take i.toNat ++ [rd l i] = l.take (i + 1).toNat := by
      rw [show (i + 1).toNat = i.toNat + 1 by omega, List.take_succ_eq_append_getElem (by omega)]
      unfold rd
      simp [List.getD_eq_getElem?_getD, show i.toNat < l.length by omega]
    simp only [stereopsisref01_Copy.l0]
    rw [if_pos hlt, if_pos h0, if_pos hlen, e, wrap64_id (by omega) (by omega)]
    exact ih k (i + 1) (by omega) (by omega) (by omega) (by omega)

theorem copy_f (l : List Int) (hl : l.length * 8 ≤ 140737488351232) {k : Nat} (hk : l.length < k) : stereopsisref01_Copy.f k l = some l := by
  unfold stereopsisref01_Copy.f
  exact copy_l0 l hl l.length k 0 (by omega) (by omega) (by omega) (by omega)

theorem loop (m : List Int) (hm : m.length ≤ 8) (d : Nat) : ∀ (k : Nat) (l : List Int) (i : Int), l.length ≤ 8 → 0 ≤ i → i ≤ l.length → (l.length : Int) - i = d → d + 80 ≤ k → stereopsislaw01_WordOwn.l0 k l m m i = some true := by
  induction d with
  | zero =>
    intro k l i hl h0 hi hd hk
    obtain ⟨k, rfl⟩ : ∃ m, k = m + 1 := ⟨k - 1, by omega⟩
    simp only [stereopsislaw01_WordOwn.l0]
    rw [if_neg (by omega), same_f _ _ (by unfold maxLen; omega) (by omega)]
    simp only [Option.bind_some]
    rw [if_pos (by simp), awake_f (by omega)]
    rfl
  | succ d ih =>
    intro k l i hl h0 hi hd hk
    obtain ⟨k, rfl⟩ : ∃ m, k = m + 1 := ⟨k - 1, by omega⟩
    simp only [stereopsislaw01_WordOwn.l0]
    rw [if_pos (by omega), if_pos h0, wrap64_id (by omega) (by omega)]
    exact ih k _ (i + 1) (by simpa using hl) (by omega) (by simp; omega) (by simp; omega) (by omega)

theorem WordOwn : stereopsislaw01_WordOwn.Pure := by
  intro w a l _ _ hm h8 _
  refine ⟨200 + l.length, ?_⟩
  unfold stereopsislaw01_WordOwn.f
  rw [copy_f l h8 (by omega), of_f l (by omega)]
  simp only [Option.bind_some]
  rw [same_f l l hm (by omega)]
  simp only [Option.bind_some]
  rw [if_pos (by simp)]
  by_cases h : W8 w a
  · rw [bits_f h (by omega)]
    simp only [Option.bind_some]
    have hl : (bitsFrom a w.toNat w.toNat).length ≤ 8 := by
      rw [bitsFrom_length]
      have := h.2.1
      omega
    rw [copy_f _ (by omega) (by omega)]
    simp only [Option.bind_some]
    exact loop _ hl (bitsFrom a w.toNat w.toNat).length _ _ 0 hl (by omega) (by omega) (by omega) (by omega)
  · rw [bits_no h (by omega)]
    simp only [Option.bind_some]
    rw [copy_f [] (by simp) (by simp; omega)]
    simp only [Option.bind_some]
    exact loop [] (by simp) 0 _ [] 0 (by simp) (by omega) (by simp) (by simp) (by omega)

end Go.Proofs.Ytcbglmdnfipgnaa.Pure
