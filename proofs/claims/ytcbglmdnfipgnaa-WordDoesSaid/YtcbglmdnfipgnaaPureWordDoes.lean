/- WordDoes: for every operator, width and all words, the law of package stereopsislaw01 answers true: Do, Not and Top are what the definition gives, or the error. No condition beside those of the statement. -/
import Derived.Test.YtcbglmdnfipgnaaPx13
import Derived.Test.YtcbglmdnfipgnaaLG
namespace Go.Proofs.Ytcbglmdnfipgnaa.Pure
open Go Go.RowKit Go.Proofs.Ytcbglmdnfipgnaa.P Go.Proofs.Ytcbglmdnfipgnaa.L Go.Proofs.YtcbglmdnfipgnaaW.PrintWords Go.Proofs.YtcbglmdnfipgnaaW.PrintLast Go.Proofs.YtcbglmdnfipgnaaW.PrintMore Go.Proofs.Ytcbglmdnfipgnaa.WordBase

theorem top_w (w : Int) {k : Nat} (hk : 4 ≤ k) : word_Top.f k w = some (if 1 ≤ w ∧ w ≤ 8 then (2 ^ w.toNat - 1, 0) else (0, 1)) := by
  unfold word_Top.f
  rw [ok_f [] (by simp) (by simpa using by omega)]
  simp only [Option.bind_some]
  by_cases h : 1 ≤ w ∧ w ≤ 8
  · rw [if_pos (decide_eq_true ⟨h.1, h.2, by simp⟩), top_f h.1 h.2, if_pos h]
    rfl
  · rw [if_neg, if_neg h]
    intro hd
    have := of_decide_eq_true hd
    exact h ⟨this.1, this.2.1⟩

theorem rtop_f {w : Int} (h : 1 ≤ w ∧ w ≤ 8) {k : Nat} (hk : 63 ≤ k) : stereopsisref01_Top.f k w = some (2 ^ w.toNat - 1) := by
  unfold stereopsisref01_Top.f
  rw [pow_f (by omega) (by omega) hk]
  simp only [Option.bind_some]
  have hp := p8 h.2
  have hpos := pow_pos_ w.toNat
  rw [wrap64_id (by omega) (by omega)]

theorem two_f (op : Int) : stereopsisref01_Two.f op = some (decide (IsOp op)) := by
  unfold stereopsisref01_Two.f
  by_cases h1 : op ≥ 2
  · rw [if_pos h1]
    by_cases h2 : op ≤ 11
    · rw [if_pos h2]
      congr 1
      symm
      apply decide_eq_true
      unfold IsOp
      omega
    · rw [if_neg h2]
      by_cases h3 : op = 13
      · rw [if_pos h3]
        congr 1
        symm
        apply decide_eq_true
        unfold IsOp
        omega
      · rw [if_neg h3]
        congr 1
        by_cases h4 : op = 14
        · subst h4; decide
        · rw [beq_eq_false_iff_ne.2 h4]
          symm
          apply decide_eq_false
          unfold IsOp
          omega
  · rw [if_neg h1]
    by_cases h3 : op = 13
    · omega
    · rw [if_neg h3]
      congr 1
      rw [beq_eq_false_iff_ne.2 (by omega)]
      symm
      apply decide_eq_false
      unfold IsOp
      omega

/-- A gate of two bits is the bit of the two words' operator. -/
theorem gate_f {op : Int} (ho : op = 7 ∨ op = 8 ∨ op = 9) (w : Int) (x y i : Nat) :
    stereopsisref01_gate.f op ((x : Int) / 2 ^ i % 2) ((y : Int) / 2 ^ i % 2) = some (doS op w x y / 2 ^ i % 2) := by
  have e7 : doS 7 w x y = ((x &&& y : Nat) : Int) := rfl
  have e8 : doS 8 w x y = ((x ||| y : Nat) : Int) := rfl
  have e9 : doS 9 w x y = ((x ^^^ y : Nat) : Int) := rfl
  have b1 : x / 2 ^ i % 2 < 2 := Nat.mod_lt _ (by decide)
  have b2 : y / 2 ^ i % 2 < 2 := Nat.mod_lt _ (by decide)
  unfold stereopsisref01_gate.f
  rcases ho with rfl | rfl | rfl
  · rw [if_pos rfl, e7, cast_bit, cast_bit, cast_bit, bit_and]
    generalize x / 2 ^ i % 2 = p at b1 ⊢
    generalize y / 2 ^ i % 2 = q at b2 ⊢
    have c1 : p = 0 ∨ p = 1 := by omega
    have c2 : q = 0 ∨ q = 1 := by omega
    rcases c1 with rfl | rfl <;> rcases c2 with rfl | rfl <;> decide +kernel
  · rw [if_neg (by decide), if_pos rfl, e8, cast_bit, cast_bit, cast_bit, bit_or]
    generalize x / 2 ^ i % 2 = p at b1 ⊢
    generalize y / 2 ^ i % 2 = q at b2 ⊢
    have c1 : p = 0 ∨ p = 1 := by omega
    have c2 : q = 0 ∨ q = 1 := by omega
    rcases c1 with rfl | rfl <;> rcases c2 with rfl | rfl <;> decide +kernel
  · rw [if_neg (by decide), if_neg (by decide), e9, cast_bit, cast_bit, cast_bit, bit_xor]
    generalize x / 2 ^ i % 2 = p at b1 ⊢
    generalize y / 2 ^ i % 2 = q at b2 ⊢
    have c1 : p = 0 ∨ p = 1 := by omega
    have c2 : q = 0 ∨ q = 1 := by omega
    rcases c1 with rfl | rfl <;> rcases c2 with rfl | rfl <;> decide +kernel

theorem op_w {op w a b : Int} (ho : op = 7 ∨ op = 8 ∨ op = 9) (ha : W8 w a) (hb : W8 w b) : 0 ≤ doS op w a b ∧ doS op w a b < 2 ^ w.toNat := by
  have h1 := nat_lt ha.2.2.1 ha.2.2.2
  have h2 := nat_lt hb.2.2.1 hb.2.2.2
  rcases ho with rfl | rfl | rfl
  · exact ⟨Int.natCast_nonneg _, cast_lt (Nat.and_lt_two_pow _ h2)⟩
  · exact ⟨Int.natCast_nonneg _, cast_lt (Nat.or_lt_two_pow h1 h2)⟩
  · exact ⟨Int.natCast_nonneg _, cast_lt (Nat.xor_lt_two_pow h1 h2)⟩

theorem each_l0 {op w a b : Int} (ho : op = 7 ∨ op = 8 ∨ op = 9) (ha : W8 w a) (hb : W8 w b) (d : Nat) : ∀ (k : Nat) (i : Int) (acc : List Int), 0 ≤ i → i ≤ w → w - i = d → d + 130 ≤ k → acc.length ≤ 100 - d →
    acc ++ bitsFrom (doS op w a b) w.toNat d = bitsFrom (doS op w a b) w.toNat w.toNat → stereopsisref01_each.l0 k op w a b acc i = some (doS op w a b) := by
  have h8 := ha.2.1
  have hp := p8 h8
  have ha1 := ha.2.2
  have hb1 := hb.2.2
  induction d with
  | zero =>
    intro k i acc h0 hi hd hk hl he
    obtain ⟨k, rfl⟩ : ∃ m, k = m + 1 := ⟨k - 1, by omega⟩
    have hw := op_w ho ha hb
    simp only [bitsFrom, List.append_nil] at he
    subst he
    simp only [stereopsisref01_each.l0]
    rw [if_neg (by omega), rof_f _ (by rw [bitsFrom_length]; omega) (bits01 _ _ _) (by omega), valS_all hw.1 hw.2]
    rfl
  | succ d ih =>
    intro k i acc h0 hi hd hk hl he
    obtain ⟨k, rfl⟩ : ∃ m, k = m + 1 := ⟨k - 1, by omega⟩
    have hg := gate_f ho w a.toNat b.toNat i.toNat
    rw [Int.toNat_of_nonneg ha1.1, Int.toNat_of_nonneg hb1.1] at hg
    simp only [stereopsisref01_each.l0]
    rw [if_pos (by omega), bit_f h0 (by omega) ha1.1 (by omega) (by omega), bit_f h0 (by omega) hb1.1 (by omega) (by omega)]
    simp only [Option.bind_some]
    rw [hg]
    simp only [Option.bind_some]
    rw [if_pos (by omega), wrap64_id (by omega) (by omega)]
    refine ih k (i + 1) _ (by omega) (by omega) (by omega) (by omega) (by simp; omega) ?_
    rw [← he]
    simp only [bitsFrom, List.append_assoc, List.singleton_append]
    rw [show w.toNat - (d + 1) = i.toNat by omega]

theorem rdo_f {op w a b : Int} (ha : W8 w a) (hb : W8 w b) (ho : IsOp op) {k : Nat} (hk : 150 ≤ k) : stereopsisref01_Do.f k op w a b = some (doS op w a b) := by
  obtain ⟨k, rfl⟩ : ∃ m, k = m + 1 := ⟨k - 1, by omega⟩
  have h1 := ha.1
  have h8 := ha.2.1
  have hp := p8 h8
  have hpos := pow_pos_ w.toNat
  have ha1 := ha.2.2
  have hb1 := hb.2.2
  have hw := pow_f (n := w) (by omega) (by omega) (k := k + 1) (by omega)
  have hw' := pow_f (n := w) (by omega) (by omega) (k := k) (by omega)
  have hbw := pow_f (n := b) hb1.1
  have hab : 0 ≤ a * b := Int.mul_nonneg ha1.1 hb1.1
  have hab2 : a * b ≤ 256 * 256 := by
    have := Int.mul_le_mul (show a ≤ 256 by omega) (show b ≤ 256 by omega) hb1.1 (by omega)
    omega
  have hne : (2 : Int) ^ w.toNat ≠ 0 := by omega
  unfold stereopsisref01_Do.f
  have each : ∀ o, (o = 7 ∨ o = 8 ∨ o = 9) → stereopsisref01_Do.j0 (k + 1) o w a b o true = some (doS o w a b) := by
    intro o hoo
    simp only [stereopsisref01_Do.j0]
    rw [if_pos trivial]
    unfold stereopsisref01_each.f
    rw [each_l0 hoo ha hb w.toNat k 0 [] (by omega) (by omega) (by omega) (by omega) (by simp) (by simp)]
    rfl
  rcases ho with rfl | rfl | rfl | rfl | rfl | rfl | rfl | rfl | rfl | rfl | rfl | rfl
  · rw [if_pos rfl, hw]
    simp only [Option.bind_some]
    rw [if_neg hne, wrap64_id (by omega) (by omega), Int.tmod_eq_emod_of_nonneg (by omega)]
    rfl
  · rw [if_neg (by decide), if_pos rfl, hw]
    simp only [Option.bind_some]
    rw [if_neg hne, wrap64_id (x := a + 2 ^ w.toNat) (by omega) (by omega), wrap64_id (by omega) (by omega), Int.tmod_eq_emod_of_nonneg (by omega)]
    show some ((a + 2 ^ w.toNat - b) % 2 ^ w.toNat) = some ((a - b) % 2 ^ w.toNat)
    rw [show a + 2 ^ w.toNat - b = a - b + 2 ^ w.toNat by omega, Int.add_emod_right]
  · rw [if_neg (by decide), if_neg (by decide), if_pos rfl, hw]
    simp only [Option.bind_some]
    rw [if_neg hne, wrap64_id (by omega) (by omega), Int.tmod_eq_emod_of_nonneg hab]
    rfl
  · rw [if_neg (by decide), if_neg (by decide), if_neg (by decide), if_pos rfl]
    show _ = some (if b = 0 then 2 ^ w.toNat - 1 else a / b)
    by_cases e : b = 0
    · rw [if_pos e, if_pos e, rtop_f ⟨h1, h8⟩ (by omega)]
      rfl
    · have q0 : 0 ≤ a / b := Int.ediv_nonneg ha1.1 hb1.1
      have q1 : a / b ≤ a := Int.ediv_le_self b ha1.1
      rw [if_neg e, if_neg e, Int.tdiv_eq_ediv_of_nonneg ha1.1, wrap64_id (by omega) (by omega)]
  · rw [if_neg (by decide), if_neg (by decide), if_neg (by decide), if_neg (by decide), if_pos rfl]
    show _ = some (if b = 0 then a else a % b)
    by_cases e : b = 0
    · rw [if_pos e, if_pos e]
    · rw [if_neg e, if_neg e, Int.tmod_eq_emod_of_nonneg ha1.1]
  · rw [if_neg (by decide), if_neg (by decide), if_neg (by decide), if_neg (by decide), if_neg (by decide), if_pos rfl]
    exact each 7 (Or.inl rfl)
  · rw [if_neg (by decide), if_neg (by decide), if_neg (by decide), if_neg (by decide), if_neg (by decide), if_neg (by decide), if_pos rfl]
    exact each 8 (Or.inr (Or.inl rfl))
  · rw [if_neg (by decide), if_neg (by decide), if_neg (by decide), if_neg (by decide), if_neg (by decide), if_neg (by decide), if_neg (by decide)]
    exact each 9 (Or.inr (Or.inr rfl))
  · rw [if_neg (by decide), if_neg (by decide), if_neg (by decide), if_neg (by decide), if_neg (by decide), if_neg (by decide), if_neg (by decide)]
    simp only [stereopsisref01_Do.j0]
    rw [if_neg (by decide), if_pos trivial]
    show _ = some (if b ≥ w then 0 else a * 2 ^ b.toNat % 2 ^ w.toNat)
    by_cases e : b ≥ w
    · rw [if_pos e, if_pos e]
    · have hq : (2 : Int) ^ b.toNat ≤ 256 := pow_le_ (n := 8) (by omega)
      have hq0 := pow_pos_ b.toNat
      have hm := Int.mul_le_mul (show a ≤ 256 by omega) hq (by omega) (by omega)
      have hm0 : 0 ≤ a * 2 ^ b.toNat := Int.mul_nonneg ha1.1 (by omega)
      rw [if_neg e, if_neg e, hbw (by omega) (by omega), hw']
      simp only [Option.bind_some]
      rw [if_neg hne, wrap64_id (by omega) (by omega), Int.tmod_eq_emod_of_nonneg hm0]
  · rw [if_neg (by decide), if_neg (by decide), if_neg (by decide), if_neg (by decide), if_neg (by decide), if_neg (by decide), if_neg (by decide)]
    simp only [stereopsisref01_Do.j0]
    rw [if_neg (by decide), if_neg (by decide), if_pos trivial]
    show _ = some (if b ≥ w then 0 else a / 2 ^ b.toNat)
    by_cases e : b ≥ w
    · rw [if_pos e, if_pos e]
    · have hq0 := pow_pos_ b.toNat
      have q0 : 0 ≤ a / 2 ^ b.toNat := Int.ediv_nonneg ha1.1 (by omega)
      have q1 : a / 2 ^ b.toNat ≤ a := Int.ediv_le_self _ ha1.1
      rw [if_neg e, if_neg e, hbw (by omega) (by omega)]
      simp only [Option.bind_some]
      rw [if_neg (by omega), Int.tdiv_eq_ediv_of_nonneg ha1.1, wrap64_id (by omega) (by omega)]
  · rw [if_neg (by decide), if_neg (by decide), if_neg (by decide), if_neg (by decide), if_neg (by decide), if_neg (by decide), if_neg (by decide)]
    simp only [stereopsisref01_Do.j0]
    rw [if_neg (by decide), if_neg (by decide), if_neg (by decide), if_pos trivial]
    show _ = some (if a = b then 1 else 0)
    unfold stereopsisref01_One.f
    by_cases e : a = b
    · rw [if_pos e, if_pos (by simpa using e)]
      rfl
    · rw [if_neg e, if_neg (by simpa using e)]
      rfl
  · rw [if_neg (by decide), if_neg (by decide), if_neg (by decide), if_neg (by decide), if_neg (by decide), if_neg (by decide), if_neg (by decide)]
    simp only [stereopsisref01_Do.j0]
    rw [if_neg (by decide), if_neg (by decide), if_neg (by decide), if_neg (by decide)]
    show _ = some (if a < b then 1 else 0)
    unfold stereopsisref01_One.f
    by_cases e : a < b
    · rw [if_pos e, if_pos (by simpa using e)]
      rfl
    · rw [if_neg e, if_neg (by simpa using e)]
      rfl

theorem j2_f (w : Int) {k : Nat} (hk : 80 ≤ k) : ∀ z g, (if 1 ≤ w ∧ w ≤ 8 then ((2 ^ w.toNat - 1, 0) : Int × Int) else (0, 1)) = (z, g) → stereopsislaw01_WordDoes.j2 k w z g = some true := by
  intro z g h
  obtain ⟨k, rfl⟩ : ∃ m, k = m + 1 := ⟨k - 1, by omega⟩
  simp only [stereopsislaw01_WordDoes.j2]
  rw [width_f]
  simp only [Option.bind_some]
  by_cases hw : 1 ≤ w ∧ w ≤ 8
  · rw [if_pos hw] at h
    cases h
    rw [if_pos (decide_eq_true hw), rtop_f hw (by omega)]
    simp only [Option.bind_some, if_true]
    rw [awake_f (by omega)]
    rfl
  · rw [if_neg hw] at h
    cases h
    rw [if_neg (by simpa using hw)]
    simp only [if_true]
    rw [awake_f (by omega)]
    rfl

theorem j1_f (w a : Int) {k : Nat} (hk : 90 ≤ k) (y f z g : Int) (hy : (if W8 w a then ((2 ^ w.toNat - 1 - a, 0) : Int × Int) else (0, 1)) = (y, f)) (hz : (if 1 ≤ w ∧ w ≤ 8 then ((2 ^ w.toNat - 1, 0) : Int × Int) else (0, 1)) = (z, g)) :
    stereopsislaw01_WordDoes.j1 k w a y f z g = some true := by
  obtain ⟨k, rfl⟩ : ∃ m, k = m + 1 := ⟨k - 1, by omega⟩
  simp only [stereopsislaw01_WordDoes.j1]
  rw [word_f w a (by omega)]
  simp only [Option.bind_some]
  by_cases h : W8 w a
  · rw [if_pos h] at hy
    cases hy
    have hp := p8 h.2.1
    have h2 := h.2.2
    rw [if_pos (decide_eq_true h)]
    unfold stereopsisref01_Not.f
    rw [rtop_f ⟨h.1, h.2.1⟩ (by omega)]
    simp only [Option.bind_some]
    rw [wrap64_id (by omega) (by omega), if_pos rfl, if_pos trivial]
    exact j2_f w (by omega) z g hz
  · rw [if_neg h] at hy
    cases hy
    rw [if_neg (by simpa using h)]
    simp only [if_true]
    exact j2_f w (by omega) z g hz

theorem notT_f (w a : Int) {k : Nat} (hk : 3 ≤ k) : word_Not.f k w a = some (if W8 w a then (2 ^ w.toNat - 1 - a, 0) else (0, 1)) := by
  by_cases h : W8 w a
  · rw [if_pos h, not_f h hk]
  · rw [if_neg h, not_no h hk]

theorem WordDoes : stereopsislaw01_WordDoes.Pure := by
  intro op w a b _ _ _ _
  refine ⟨200, ?_⟩
  unfold stereopsislaw01_WordDoes.f
  rw [notT_f w a (by omega), top_w w (by omega), word_f w a (by omega), word_f w b (by omega), two_f]
  obtain ⟨y, hy⟩ : ∃ y, (if W8 w a then ((2 ^ w.toNat - 1 - a, 0) : Int × Int) else (0, 1)) = y := ⟨_, rfl⟩
  obtain ⟨z, hz⟩ : ∃ z, (if 1 ≤ w ∧ w ≤ 8 then ((2 ^ w.toNat - 1, 0) : Int × Int) else (0, 1)) = z := ⟨_, rfl⟩
  rw [hy, hz]
  simp only [Option.bind_some]
  have bad : stereopsislaw01_WordDoes.j0 200 op w a b 0 1 y.1 y.2 z.1 z.2 true = some true := by
    show stereopsislaw01_WordDoes.j0 (199 + 1) op w a b 0 1 y.1 y.2 z.1 z.2 true = some true
    simp only [stereopsislaw01_WordDoes.j0, if_true]
    exact j1_f w a (by omega) _ _ _ _ hy hz
  by_cases h : (W8 w a ∧ W8 w b) ∧ IsOp op
  · rw [do_f h.1.1 h.1.2 h.2 (by omega), decide_eq_true h.1.1, decide_eq_true h.1.2, decide_eq_true h.2]
    simp only [Option.bind_some, if_true, Bool.not_true]
    show stereopsislaw01_WordDoes.j0 (199 + 1) op w a b (doS op w a b) 0 y.1 y.2 z.1 z.2 false = some true
    simp only [stereopsislaw01_WordDoes.j0]
    rw [if_neg (by decide), rdo_f h.1.1 h.1.2 h.2 (by omega)]
    simp only [Option.bind_some, if_true]
    exact j1_f w a (by omega) _ _ _ _ hy hz
  · rw [do_no h (by omega)]
    simp only [Option.bind_some]
    by_cases ha : W8 w a
    · rw [decide_eq_true ha]
      simp only [if_true]
      by_cases hb : W8 w b
      · rw [decide_eq_true hb]
        simp only [if_true]
        rw [decide_eq_false (fun ho => h ⟨⟨ha, hb⟩, ho⟩)]
        exact bad
      · rw [if_neg (by simpa using hb)]
        exact bad
    · rw [if_neg (by simpa using ha)]
      exact bad

end Go.Proofs.Ytcbglmdnfipgnaa.Pure
