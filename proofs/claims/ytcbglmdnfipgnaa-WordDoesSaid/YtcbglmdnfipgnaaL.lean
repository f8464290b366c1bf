/- What the printed functions of package word come to, on all arguments: plain Lean, no program in sight; each fact names its bounds. -/
import Derived.Test.YtcbglmdnfipgnaaPx1
import Derived.Test.YtcbglmdnfipgnaaPx2
import Derived.Test.YtcbglmdnfipgnaaPx3
import Derived.Test.YtcbglmdnfipgnaaWordBase
namespace Go.Proofs.Ytcbglmdnfipgnaa.L
open Go Go.RowKit Go.Proofs.Ytcbglmdnfipgnaa.P Go.Proofs.YtcbglmdnfipgnaaW.PrintWords Go.Proofs.YtcbglmdnfipgnaaW.PrintLast Go.Proofs.YtcbglmdnfipgnaaW.PrintMore Go.Proofs.Ytcbglmdnfipgnaa.WordBase

/-- A word of a width. -/
abbrev W8 (w a : Int) : Prop := 1 ≤ w ∧ w ≤ 8 ∧ 0 ≤ a ∧ a < 2 ^ w.toNat

theorem eight {w : Int} (h1 : 1 ≤ w) (h8 : w ≤ 8) : w = 1 ∨ w = 2 ∨ w = 3 ∨ w = 4 ∨ w = 5 ∨ w = 6 ∨ w = 7 ∨ w = 8 := by omega

theorem p8 {w : Int} (h8 : w ≤ 8) : (2 : Int) ^ w.toNat ≤ 256 := pow_le_ (n := 8) (by omega)

theorem u64_id {x : Int} (h0 : 0 ≤ x) (h1 : x ≤ 1000) : IntKind.u64.wrap x = x := by
  simp only [IntKind.wrap, IntKind.bits, IntKind.signed]
  simp
  omega

theorem top_f {w : Int} (h1 : 1 ≤ w) (h8 : w ≤ 8) : word_top.f w = some (2 ^ w.toNat - 1) := by
  rcases eight h1 h8 with rfl | rfl | rfl | rfl | rfl | rfl | rfl | rfl <;> decide +kernel

theorem rd_at {l : List Int} {i : Int} (h0 : 0 ≤ i) (h : i < l.length) : ∃ x r, l.drop i.toNat = x :: r ∧ rd l i = x ∧ l.drop (i + 1).toNat = r := by
  have hi : i.toNat < l.length := by omega
  refine ⟨l[i.toNat], l.drop (i.toNat + 1), List.drop_eq_getElem_cons hi, ?_, ?_⟩
  · unfold rd
    simp [List.getD_eq_getElem?_getD, hi]
  · rw [show (i + 1).toNat = i.toNat + 1 by omega]

theorem ok_l0 {w : Int} (h1 : 1 ≤ w) (h8 : w ≤ 8) (l : List Int) (hl : l.length ≤ 1000) (d : Nat) : ∀ (k : Nat) (i : Int), 0 ≤ i → i ≤ l.length → (l.length : Int) - i = d → d < k →
    word_ok.l0 k w l (l.length : Int) i = some (decide (∀ x ∈ l.drop i.toNat, 0 ≤ x ∧ x < 2 ^ w.toNat)) := by
  induction d with
  | zero =>
    intro k i h0 hi hd hk
    obtain ⟨k, rfl⟩ : ∃ m, k = m + 1 := ⟨k - 1, by omega⟩
    simp only [word_ok.l0]
    rw [if_neg (by omega), List.drop_of_length_le (by omega)]
    simp
  | succ d ih =>
    intro k i h0 hi hd hk
    obtain ⟨k, rfl⟩ : ∃ m, k = m + 1 := ⟨k - 1, by omega⟩
    have hlt : i < (l.length : Int) := by omega
    obtain ⟨x, r, e1, e2, e3⟩ := rd_at h0 hlt
    have hr := ih k (i + 1) (by omega) (by omega) (by omega) (by omega)
    simp only [word_ok.l0]
    rw [if_pos hlt, if_pos h0, if_pos hlt, e2, e1, top_f h1 h8]
    simp only [Option.bind_some]
    rw [wrap64_id (by omega) (by omega), hr, e3]
    by_cases hx : x < 0
    · rw [if_pos hx]
      congr 1
      symm
      apply decide_eq_false
      intro h
      have := (h x (by simp)).1
      omega
    · rw [if_neg hx]
      by_cases hy : x > 2 ^ w.toNat - 1
      · rw [if_pos hy]
        congr 1
        symm
        apply decide_eq_false
        intro h
        have := (h x (by simp)).2
        omega
      · rw [if_neg hy]
        congr 1
        apply decide_eq_decide.2
        constructor
        · intro h y hy2
          rcases List.mem_cons.1 hy2 with rfl | hm
          · omega
          · exact h y hm
        · intro h y hm
          exact h y (List.mem_cons_of_mem _ hm)

theorem ok_f {w : Int} (l : List Int) (hl : l.length ≤ 1000) {k : Nat} (hk : l.length + 2 ≤ k) : word_ok.f k w l = some (decide (1 ≤ w ∧ w ≤ 8 ∧ ∀ x ∈ l, 0 ≤ x ∧ x < 2 ^ w.toNat)) := by
  obtain ⟨k, rfl⟩ : ∃ m, k = m + 1 := ⟨k - 1, by omega⟩
  unfold word_ok.f
  by_cases h1 : w < 1
  · rw [if_pos h1]
    simp only [word_ok.j0]
    rw [if_pos trivial]
    congr 1
    symm
    apply decide_eq_false
    intro h
    omega
  · rw [if_neg h1]
    simp only [word_ok.j0]
    by_cases h8 : w > 8
    · rw [if_pos (decide_eq_true h8)]
      congr 1
      symm
      apply decide_eq_false
      intro h
      omega
    · rw [if_neg (by simpa using h8), ok_l0 (by omega) (by omega) l hl l.length k 0 (by omega) (by omega) (by omega) (by omega)]
      congr 1
      apply decide_eq_decide.2
      constructor
      · intro h
        exact ⟨by omega, by omega, h⟩
      · intro h
        exact h.2.2

theorem ok_two {w a b : Int} {k : Nat} (hk : 4 ≤ k) : word_ok.f k w [a, b] = some (decide (W8 w a ∧ W8 w b)) := by
  rw [ok_f [a, b] (by simp) (by simpa using hk)]
  congr 1
  apply decide_eq_decide.2
  simp [W8]
  omega

theorem ok_one {w a : Int} {k : Nat} (hk : 3 ≤ k) : word_ok.f k w [a] = some (decide (W8 w a)) := by
  rw [ok_f [a] (by simp) (by simpa using hk)]
  congr 1
  apply decide_eq_decide.2
  simp [W8]

/-- The operators of two words. -/
abbrev IsOp (op : Int) : Prop := op = 2 ∨ op = 3 ∨ op = 4 ∨ op = 5 ∨ op = 6 ∨ op = 7 ∨ op = 8 ∨ op = 9 ∨ op = 10 ∨ op = 11 ∨ op = 13 ∨ op = 14

/-- What Do is to be. -/
def doS (op w a b : Int) : Int :=
  if op = 2 then (a + b) % 2 ^ w.toNat
  else if op = 3 then (a - b) % 2 ^ w.toNat
  else if op = 4 then a * b % 2 ^ w.toNat
  else if op = 5 then (if b = 0 then 2 ^ w.toNat - 1 else a / b)
  else if op = 6 then (if b = 0 then a else a % b)
  else if op = 7 then ((a.toNat &&& b.toNat : Nat) : Int)
  else if op = 8 then ((a.toNat ||| b.toNat : Nat) : Int)
  else if op = 9 then ((a.toNat ^^^ b.toNat : Nat) : Int)
  else if op = 10 then (if b ≥ w then 0 else a * 2 ^ b.toNat % 2 ^ w.toNat)
  else if op = 11 then (if b ≥ w then 0 else a / 2 ^ b.toNat)
  else if op = 13 then (if a = b then 1 else 0)
  else (if a < b then 1 else 0)

theorem mod_id {x : Int} {n : Nat} (h0 : 0 ≤ x) (h1 : x < 2 ^ n) : x % 2 ^ n = x := Int.emod_eq_of_lt h0 h1

theorem nat_lt {a : Int} {n : Nat} (h0 : 0 ≤ a) (h1 : a < 2 ^ n) : a.toNat < 2 ^ n := by
  have : ((a.toNat : Nat) : Int) < ((2 ^ n : Nat) : Int) := by
    rw [Int.toNat_of_nonneg h0]
    simpa using h1
  exact_mod_cast this

theorem cast_lt {x n : Nat} (h : x < 2 ^ n) : ((x : Nat) : Int) < 2 ^ n := by
  have : ((x : Nat) : Int) < ((2 ^ n : Nat) : Int) := by exact_mod_cast h
  simpa using this

theorem lt63 {a : Int} (h0 : 0 ≤ a) (h1 : a < 256) : a.toNat < 2 ^ 63 := by
  have : a.toNat < 256 := by omega
  exact Nat.lt_trans this (by decide)

theorem does_g {op w a b : Int} (ha : W8 w a) (hb : W8 w b) (ho : IsOp op) : ∃ x, word_Do.g op w a b = some x ∧ x % 2 ^ w.toNat = doS op w a b := by
  obtain ⟨h1, h8, ha0, ha1⟩ := ha
  obtain ⟨_, _, hb0, hb1⟩ := hb
  have hp := p8 h8
  have hpos := pow_pos_ w.toNat
  have han := nat_lt ha0 ha1
  have hbn := nat_lt hb0 hb1
  have hab : 0 ≤ a * b := Int.mul_nonneg ha0 hb0
  have hab2 : a * b ≤ 256 * 256 := by
    have := Int.mul_le_mul (show a ≤ 256 by omega) (show b ≤ 256 by omega) hb0 (by omega)
    omega
  rcases ho with rfl | rfl | rfl | rfl | rfl | rfl | rfl | rfl | rfl | rfl | rfl | rfl
  · exact ⟨a + b, by show some (wrap64 (a + b)) = _; rw [wrap64_id (by omega) (by omega)], rfl⟩
  · exact ⟨a - b, by show some (wrap64 (a - b)) = _; rw [wrap64_id (by omega) (by omega)], rfl⟩
  · exact ⟨a * b, by show some (wrap64 (a * b)) = _; rw [wrap64_id (by omega) (by omega)], rfl⟩
  · show ∃ x, word_does_4.f w a b = some x ∧ x % 2 ^ w.toNat = (if b = 0 then 2 ^ w.toNat - 1 else a / b)
    unfold word_does_4.f
    by_cases e : b = 0
    · rw [if_pos e, if_pos e, top_f h1 h8]
      exact ⟨_, rfl, mod_id (by omega) (by omega)⟩
    · rw [if_neg e, if_neg e, Int.tdiv_eq_ediv_of_nonneg ha0]
      have q0 : 0 ≤ a / b := Int.ediv_nonneg ha0 hb0
      have q1 : a / b ≤ a := Int.ediv_le_self b ha0
      exact ⟨_, by rw [wrap64_id (by omega) (by omega)], mod_id q0 (by omega)⟩
  · show ∃ x, word_does_5.f w a b = some x ∧ x % 2 ^ w.toNat = (if b = 0 then a else a % b)
    unfold word_does_5.f
    by_cases e : b = 0
    · rw [if_pos e, if_pos e]
      exact ⟨_, rfl, mod_id ha0 ha1⟩
    · rw [if_neg e, if_neg e, Int.tmod_eq_emod_of_nonneg ha0]
      have q0 : 0 ≤ a % b := Int.emod_nonneg _ e
      have q1 : a % b < b := Int.emod_lt_of_pos _ (by omega)
      exact ⟨_, rfl, mod_id q0 (by omega)⟩
  · refine ⟨bits .and .i64 a b, rfl, ?_⟩
    have e := and_nat a.toNat b.toNat (lt63 ha0 (by omega)) (lt63 hb0 (by omega))
    rw [Int.toNat_of_nonneg ha0, Int.toNat_of_nonneg hb0] at e
    rw [e]
    exact mod_id (Int.natCast_nonneg _) (cast_lt (Nat.and_lt_two_pow _ hbn))
  · refine ⟨bits .or .i64 a b, rfl, ?_⟩
    have e := or_nat a.toNat b.toNat (lt63 ha0 (by omega)) (lt63 hb0 (by omega))
    rw [Int.toNat_of_nonneg ha0, Int.toNat_of_nonneg hb0] at e
    rw [e]
    exact mod_id (Int.natCast_nonneg _) (cast_lt (Nat.or_lt_two_pow han hbn))
  · refine ⟨bits .xor .i64 a b, rfl, ?_⟩
    have e := xor_nat a.toNat b.toNat (lt63 ha0 (by omega)) (lt63 hb0 (by omega))
    rw [Int.toNat_of_nonneg ha0, Int.toNat_of_nonneg hb0] at e
    rw [e]
    exact mod_id (Int.natCast_nonneg _) (cast_lt (Nat.xor_lt_two_pow han hbn))
  · show ∃ x, word_does_9.f w a b = some x ∧ x % 2 ^ w.toNat = (if b ≥ w then 0 else a * 2 ^ b.toNat % 2 ^ w.toNat)
    unfold word_does_9.f word_shifted.f
    by_cases e : b ≥ w
    · rw [if_pos e, if_pos e]
      exact ⟨_, rfl, mod_id (by omega) (by omega)⟩
    · rw [if_neg e, if_neg e, if_pos rfl, u64_id hb0 (by omega), if_pos hb0]
      refine ⟨a * 2 ^ b.toNat, ?_, rfl⟩
      simp only [Option.bind_some]
      have hq : (2 : Int) ^ b.toNat ≤ 256 := pow_le_ (n := 8) (by omega)
      have hq0 := pow_pos_ b.toNat
      have hm := Int.mul_le_mul (show a ≤ 256 by omega) hq (by omega) (by omega)
      have hm0 : 0 ≤ a * 2 ^ b.toNat := Int.mul_nonneg ha0 (by omega)
      unfold shl
      rw [show min b.toNat IntKind.i64.bits = b.toNat from Nat.min_eq_left (by show b.toNat ≤ 64; omega)]
      rw [wraps_i64 _ hm0 (by have : (2 : Int) ^ 63 = 9223372036854775808 := by decide
                              omega)]
  · show ∃ x, word_does_10.f w a b = some x ∧ x % 2 ^ w.toNat = (if b ≥ w then 0 else a / 2 ^ b.toNat)
    unfold word_does_10.f word_shifted.f
    by_cases e : b ≥ w
    · rw [if_pos e, if_pos e]
      exact ⟨_, rfl, mod_id (by omega) (by omega)⟩
    · rw [if_neg e, if_neg e, if_neg (by decide), u64_id hb0 (by omega), if_pos hb0]
      simp only [Option.bind_some]
      unfold shr
      rw [show min b.toNat IntKind.i64.bits = b.toNat from Nat.min_eq_left (by show b.toNat ≤ 64; omega)]
      have hq0 := pow_pos_ b.toNat
      have q0 : 0 ≤ a / 2 ^ b.toNat := Int.ediv_nonneg ha0 (by omega)
      have q1 : a / 2 ^ b.toNat ≤ a := Int.ediv_le_self _ ha0
      exact ⟨_, rfl, mod_id q0 (by omega)⟩
  · show ∃ x, word_does_11.f w a b = some x ∧ x % 2 ^ w.toNat = (if a = b then 1 else 0)
    have h2 : (2 : Int) ≤ 2 ^ w.toNat := pow_le_ (m := 1) (by omega)
    unfold word_does_11.f word_truth.f
    by_cases e : a = b
    · rw [if_pos e, if_pos (by simpa using e)]
      exact ⟨_, rfl, mod_id (by omega) (by omega)⟩
    · rw [if_neg e, if_neg (by simpa using e)]
      exact ⟨_, rfl, mod_id (by omega) (by omega)⟩
  · show ∃ x, word_does_12.f w a b = some x ∧ x % 2 ^ w.toNat = (if a < b then 1 else 0)
    have h2 : (2 : Int) ≤ 2 ^ w.toNat := pow_le_ (m := 1) (by omega)
    unfold word_does_12.f word_truth.f
    by_cases e : a < b
    · rw [if_pos e, if_pos (by simpa using e)]
      exact ⟨_, rfl, mod_id (by omega) (by omega)⟩
    · rw [if_neg e, if_neg (by simpa using e)]
      exact ⟨_, rfl, mod_id (by omega) (by omega)⟩

theorem do_f {op w a b : Int} (ha : W8 w a) (hb : W8 w b) (ho : IsOp op) {k : Nat} (hk : 4 ≤ k) : word_Do.f k op w a b = some (doS op w a b, 0) := by
  obtain ⟨x, e1, e2⟩ := does_g ha hb ho
  unfold word_Do.f
  rw [ok_two hk]
  simp only [Option.bind_some]
  rw [if_pos (decide_eq_true ⟨ha, hb⟩), if_pos ho, e1]
  simp only [Option.bind_some]
  rw [top_f ha.1 ha.2.1]
  simp only [Option.bind_some]
  rw [and_mask _ _ (by have := ha.2.1; omega), e2]

theorem do_no {op w a b : Int} (h : ¬ ((W8 w a ∧ W8 w b) ∧ IsOp op)) {k : Nat} (hk : 4 ≤ k) : word_Do.f k op w a b = some (0, 1) := by
  unfold word_Do.f
  rw [ok_two hk]
  simp only [Option.bind_some]
  by_cases hw : W8 w a ∧ W8 w b
  · rw [if_pos (decide_eq_true hw), if_neg (fun ho => h ⟨hw, ho⟩)]
  · rw [if_neg (by simpa using hw)]

theorem andNot_top {w a : Int} (ha : W8 w a) : bits .andNot .i64 (2 ^ w.toNat - 1) a = 2 ^ w.toNat - 1 - a := by
  obtain ⟨h1, h8, h0, hlt⟩ := ha
  have hn := nat_lt h0 hlt
  have hp : (2 : Nat) ^ w.toNat ≤ 2 ^ 8 := Nat.pow_le_pow_right (by decide) (by omega)
  have hp0 : 0 < 2 ^ w.toNat := Nat.pow_pos (by decide)
  have e := andNot_nat (2 ^ w.toNat - 1) a.toNat (by omega) (by omega)
  rw [Int.toNat_of_nonneg h0] at e
  have hc : ((2 ^ w.toNat - 1 : Nat) : Int) = 2 ^ w.toNat - 1 := by
    rw [Int.natCast_sub hp0]
    simp
  rw [hc] at e
  rw [e]
  have h2 : (2 ^ w.toNat - 1) &&& (2 ^ 64 - 1 - a.toNat) = 2 ^ w.toNat - 1 - a.toNat := by
    rw [Nat.and_comm, Nat.and_two_pow_sub_one_eq_mod]
    rcases eight h1 h8 with rfl | rfl | rfl | rfl | rfl | rfl | rfl | rfl <;> simp at hn ⊢ <;> omega
  rw [h2]
  omega

theorem not_f {w a : Int} (ha : W8 w a) {k : Nat} (hk : 3 ≤ k) : word_Not.f k w a = some (2 ^ w.toNat - 1 - a, 0) := by
  unfold word_Not.f
  rw [ok_one hk]
  simp only [Option.bind_some]
  rw [if_pos (decide_eq_true ha), top_f ha.1 ha.2.1]
  simp only [Option.bind_some]
  rw [andNot_top ha]

theorem not_no {w a : Int} (ha : ¬ W8 w a) {k : Nat} (hk : 3 ≤ k) : word_Not.f k w a = some (0, 1) := by
  unfold word_Not.f
  rw [ok_one hk]
  simp only [Option.bind_some]
  rw [if_neg (by simpa using ha)]

theorem pow_l0 (n : Int) (h62 : n ≤ 62) (d : Nat) : ∀ (k : Nat) (i p : Int), 0 ≤ i → i ≤ n → n - i = d → p = 2 ^ i.toNat → d < k → stereopsisref01_Pow.l0 k n p i = some (2 ^ n.toNat) := by
  induction d with
  | zero =>
    intro k i p h0 hi hd hp hk
    obtain ⟨k, rfl⟩ : ∃ m, k = m + 1 := ⟨k - 1, by omega⟩
    simp only [stereopsisref01_Pow.l0]
    rw [if_neg (by omega), hp, show i = n by omega]
  | succ d ih =>
    intro k i p h0 hi hd hp hk
    obtain ⟨k, rfl⟩ : ∃ m, k = m + 1 := ⟨k - 1, by omega⟩
    simp only [stereopsisref01_Pow.l0]
    have hq : (2 : Int) ^ i.toNat ≤ 2 ^ 61 := pow_le_ (by omega)
    have hq0 := pow_pos_ i.toNat
    have h61 : (2 : Int) ^ 61 = 2305843009213693952 := by decide
    rw [if_pos (by omega), wrap64_id (by omega) (by omega), wrap64_id (by omega) (by omega)]
    refine ih k (i + 1) _ (by omega) (by omega) (by omega) ?_ (by omega)
    rw [hp, show (i + 1).toNat = i.toNat + 1 by omega, Int.pow_succ]
    omega

theorem pow_f {n : Int} (h0 : 0 ≤ n) (h62 : n ≤ 62) {k : Nat} (hk : 63 ≤ k) : stereopsisref01_Pow.f k n = some (2 ^ n.toNat) :=
  pow_l0 n h62 n.toNat k 0 1 (by omega) (by omega) (by omega) rfl (by omega)

theorem width_f (w : Int) : stereopsisref01_Width.f w = some (decide (1 ≤ w ∧ w ≤ 8)) := by
  unfold stereopsisref01_Width.f
  by_cases h : w ≥ 1
  · rw [if_pos h]
    congr 1
    apply decide_eq_decide.2
    omega
  · rw [if_neg h]
    congr 1
    symm
    apply decide_eq_false
    omega

theorem word_f (w a : Int) {k : Nat} (hk : 63 ≤ k) : stereopsisref01_Word.f k w a = some (decide (W8 w a)) := by
  unfold stereopsisref01_Word.f
  rw [width_f]
  simp only [Option.bind_some]
  by_cases h : 1 ≤ w ∧ w ≤ 8
  · rw [if_pos (decide_eq_true h)]
    by_cases h0 : a ≥ 0
    · rw [if_pos h0, pow_f (by omega) (by omega) hk]
      simp only [Option.bind_some]
      congr 1
      apply decide_eq_decide.2
      unfold W8
      omega
    · rw [if_neg h0]
      congr 1
      symm
      apply decide_eq_false
      unfold W8
      omega
  · rw [if_neg (by simpa using h)]
    congr 1
    symm
    apply decide_eq_false
    unfold W8
    omega

theorem awake_f {k : Nat} (hk : 60 ≤ k) : stereopsislaw01_awake.f k = some true :=
  at_rounds (g := stereopsislaw01_awake.f) (fun k => stereopsislaw01_awake.mono k) hk (by decide +kernel)

end Go.Proofs.Ytcbglmdnfipgnaa.L
