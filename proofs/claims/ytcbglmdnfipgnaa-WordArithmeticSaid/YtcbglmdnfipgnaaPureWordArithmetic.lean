/- WordArithmetic: for every width and all words, the law of package stereopsislaw01 answers true: sums and products are commutative and associative, products distribute over sums, differences invert sums, and quotient and remainder belong together. No condition beside those of the statement. -/
import Derived.Test.YtcbglmdnfipgnaaPx6
import Derived.Test.YtcbglmdnfipgnaaL
namespace Go.Proofs.Ytcbglmdnfipgnaa.Pure
open Go Go.RowKit Go.Proofs.Ytcbglmdnfipgnaa.P Go.Proofs.Ytcbglmdnfipgnaa.L Go.Proofs.YtcbglmdnfipgnaaW.PrintWords Go.Proofs.YtcbglmdnfipgnaaW.PrintLast Go.Proofs.YtcbglmdnfipgnaaW.PrintMore Go.Proofs.Ytcbglmdnfipgnaa.WordBase

theorem do_law {op w a b : Int} (ha : W8 w a) (hb : W8 w b) (ho : IsOp op) {k : Nat} (hk : 4 ≤ k) : stereopsislaw01_do.f k op w a b = some (doS op w a b, true) := by
  unfold stereopsislaw01_do.f
  rw [do_f ha hb ho hk]
  rfl

theorem mod_w8 {w : Int} (h1 : 1 ≤ w) (h8 : w ≤ 8) (x : Int) : W8 w (x % 2 ^ w.toNat) :=
  ⟨h1, h8, Int.emod_nonneg _ (Int.ne_of_gt (pow_pos_ _)), Int.emod_lt_of_pos _ (pow_pos_ _)⟩

theorem mul_bd {w a b : Int} (ha : W8 w a) (hb : W8 w b) : 0 ≤ a * b ∧ a * b ≤ 65536 := by
  have hp := p8 ha.2.1
  have h1 := ha.2.2
  have h2 := hb.2.2
  have := Int.mul_le_mul (show a ≤ 256 by omega) (show b ≤ 256 by omega) h2.1 (by omega)
  exact ⟨Int.mul_nonneg h1.1 h2.1, by omega⟩

theorem awake_j0 {k : Nat} (hk : 61 ≤ k) (w a b c : Int) : stereopsislaw01_WordArithmetic.j0 k w a b c true = some true := by
  obtain ⟨k, rfl⟩ : ∃ m, k = m + 1 := ⟨k - 1, by omega⟩
  simp only [stereopsislaw01_WordArithmetic.j0, if_true]
  rw [awake_f (by omega)]
  rfl

/-- Commutative and associative: sums (op 2) and products (op 4). -/
theorem comm {op w a b : Int} (ho : op = 2 ∨ op = 4) : doS op w a b = doS op w b a := by
  rcases ho with rfl | rfl
  · show (a + b) % _ = (b + a) % _
    rw [Int.add_comm]
  · show a * b % _ = b * a % _
    rw [Int.mul_comm]

theorem assoc {op w a b c : Int} (ho : op = 2 ∨ op = 4) : doS op w (doS op w a b) c = doS op w a (doS op w b c) := by
  rcases ho with rfl | rfl
  · show ((a + b) % _ + c) % _ = (a + (b + c) % _) % _
    rw [Int.emod_add_emod, Int.add_emod_emod, Int.add_assoc]
  · show ((a * b) % _ * c) % _ = (a * ((b * c) % _)) % _
    rw [Int.mul_emod (a * b % _) c, Int.emod_emod_of_dvd _ (Int.dvd_refl _), ← Int.mul_emod, Int.mul_emod a (b * c % _), Int.emod_emod_of_dvd _ (Int.dvd_refl _), ← Int.mul_emod, Int.mul_assoc]

theorem round {k : Nat} {w a b c : Int} (ha : W8 w a) (hb : W8 w b) (hc : W8 w c) (hk : 10 ≤ k) (i op : Int) (hop : op = 2 ∨ op = 4) (hi : i < 2) (h0 : 0 ≤ i) (e : wrap64 (2 + wrap64 (2 * i)) = op) :
    stereopsislaw01_WordArithmetic.l0 (k + 1) w a b c i = stereopsislaw01_WordArithmetic.l0 k w a b c (i + 1) := by
  have hio : IsOp op := by rcases hop with rfl | rfl <;> decide
  have hw : ∀ x y, W8 w (doS op w x y) := by
    intro x y
    rcases hop with rfl | rfl
    · exact mod_w8 ha.1 ha.2.1 _
    · exact mod_w8 ha.1 ha.2.1 _
  have e1 := do_law ha hb hio (k := k) (by omega)
  have e2 := do_law hb ha hio (k := k) (by omega)
  have e3 := do_law hb hc hio (k := k) (by omega)
  have e4 := do_law (hw a b) hc hio (k := k) (by omega)
  have e5 := do_law ha (hw b c) hio (k := k) (by omega)
  simp only [stereopsislaw01_WordArithmetic.l0]
  rw [if_pos hi, e, e1, e2, e3]
  simp only [Option.bind_some]
  rw [e4, e5]
  simp only [Option.bind_some, if_true]
  rw [if_pos (comm hop), if_pos (assoc hop), wrap64_id (by omega) (by omega)]

theorem tail {k : Nat} {w a b : Int} (ha : W8 w a) (hb : W8 w b) (hk : 70 ≤ k) : stereopsislaw01_WordArithmetic.j2 k w a b false = some true := by
  obtain ⟨k, rfl⟩ : ∃ m, k = m + 1 := ⟨k - 1, by omega⟩
  have hp := p8 ha.2.1
  have hpos := pow_pos_ w.toNat
  have h1 := ha.2.2
  have h2 := hb.2.2
  have e1 := do_law ha hb (show IsOp 5 by decide) (k := k) (by omega)
  have e2 := do_law ha hb (show IsOp 6 by decide) (k := k) (by omega)
  have q1 : doS 5 w a b = if b = 0 then 2 ^ w.toNat - 1 else a / b := rfl
  have q2 : doS 6 w a b = if b = 0 then a else a % b := rfl
  by_cases hb0 : b = 0
  · rw [if_pos hb0] at q1 q2
    have w1 : W8 w (doS 5 w a b) := by rw [q1]; exact ⟨ha.1, ha.2.1, by omega, by omega⟩
    have w2 : W8 w (doS 6 w a b) := by rw [q2]; exact ha
    have e3 := do_law w1 hb (show IsOp 4 by decide) (k := k) (by omega)
    have e4 := do_law (mod_w8 ha.1 ha.2.1 (doS 5 w a b * b)) w2 (show IsOp 2 by decide) (k := k) (by omega)
    simp only [stereopsislaw01_WordArithmetic.j2]
    rw [if_neg (by decide), e1, e2]
    simp only [Option.bind_some]
    rw [e3]
    simp only [Option.bind_some]
    rw [show doS 4 w (doS 5 w a b) b = doS 5 w a b * b % 2 ^ w.toNat from rfl, e4]
    simp only [Option.bind_some, if_true]
    rw [if_pos hb0, awake_f (by omega)]
    rfl
  · rw [if_neg hb0] at q1 q2
    have d0 : 0 ≤ a / b := Int.ediv_nonneg h1.1 h2.1
    have d1 : a / b ≤ a := Int.ediv_le_self b h1.1
    have m0 : 0 ≤ a % b := Int.emod_nonneg _ hb0
    have m1 : a % b < b := Int.emod_lt_of_pos _ (by omega)
    have hsum : a / b * b + a % b = a := by
      have := Int.mul_ediv_add_emod a b
      rw [Int.mul_comm]
      exact this
    have w1 : W8 w (doS 5 w a b) := by rw [q1]; exact ⟨ha.1, ha.2.1, d0, by omega⟩
    have w2 : W8 w (doS 6 w a b) := by rw [q2]; exact ⟨ha.1, ha.2.1, m0, by omega⟩
    have e3 := do_law w1 hb (show IsOp 4 by decide) (k := k) (by omega)
    have e4 := do_law (mod_w8 ha.1 ha.2.1 (doS 5 w a b * b)) w2 (show IsOp 2 by decide) (k := k) (by omega)
    have hd : 0 ≤ a / b * b := Int.mul_nonneg d0 h2.1
    simp only [stereopsislaw01_WordArithmetic.j2]
    rw [if_neg (by decide), e1, e2]
    simp only [Option.bind_some]
    rw [e3]
    simp only [Option.bind_some]
    rw [show doS 4 w (doS 5 w a b) b = doS 5 w a b * b % 2 ^ w.toNat from rfl, e4]
    simp only [Option.bind_some, if_true]
    rw [if_neg hb0]
    have r1 : doS 2 w (doS 5 w a b * b % 2 ^ w.toNat) (doS 6 w a b) = a := by
      show (doS 5 w a b * b % 2 ^ w.toNat + doS 6 w a b) % 2 ^ w.toNat = a
      rw [q1, q2, Int.emod_add_emod, hsum]
      exact mod_id h1.1 h1.2
    rw [if_pos r1, q2, if_pos m1, q1, wrap64_id (x := a / b * b) (by omega) (by omega), hsum, wrap64_id (by omega) (by omega), if_pos rfl, awake_f (by omega)]
    rfl

theorem last {k : Nat} {w a b c : Int} (ha : W8 w a) (hb : W8 w b) (hc : W8 w c) (hk : 80 ≤ k) : stereopsislaw01_WordArithmetic.l0 k w a b c 2 = some true := by
  obtain ⟨k, rfl⟩ : ∃ m, k = m + 1 := ⟨k - 1, by omega⟩
  have hm := mod_w8 ha.1 ha.2.1
  have e1 := do_law hb hc (show IsOp 2 by decide) (k := k) (by omega)
  have e2 := do_law ha (hm (b + c)) (show IsOp 4 by decide) (k := k) (by omega)
  have e3 := do_law ha hb (show IsOp 4 by decide) (k := k) (by omega)
  have e4 := do_law ha hc (show IsOp 4 by decide) (k := k) (by omega)
  have e5 := do_law (hm (a * b)) (hm (a * c)) (show IsOp 2 by decide) (k := k) (by omega)
  have e6 := do_law (hm (b + c)) hc (show IsOp 3 by decide) (k := k) (by omega)
  have s1 : doS 2 w b c = (b + c) % 2 ^ w.toNat := rfl
  have s3 : doS 4 w a b = a * b % 2 ^ w.toNat := rfl
  have s4 : doS 4 w a c = a * c % 2 ^ w.toNat := rfl
  have s2 : doS 4 w a ((b + c) % 2 ^ w.toNat) = doS 2 w (a * b % 2 ^ w.toNat) (a * c % 2 ^ w.toNat) := by
    show a * ((b + c) % 2 ^ w.toNat) % 2 ^ w.toNat = (a * b % 2 ^ w.toNat + a * c % 2 ^ w.toNat) % 2 ^ w.toNat
    rw [Int.emod_add_emod, Int.add_emod_emod, ← Int.mul_add, Int.mul_emod, Int.emod_emod_of_dvd _ (Int.dvd_refl _), ← Int.mul_emod]
  have s6 : doS 3 w ((b + c) % 2 ^ w.toNat) c = b := by
    show ((b + c) % 2 ^ w.toNat - c) % 2 ^ w.toNat = b
    rw [Int.emod_sub_emod, Int.add_sub_cancel]
    exact mod_id hb.2.2.1 hb.2.2.2
  simp only [stereopsislaw01_WordArithmetic.l0]
  rw [if_neg (by decide), e1]
  simp only [Option.bind_some]
  rw [s1, e2, e3, e4]
  simp only [Option.bind_some]
  rw [s3, s4, e5, e6]
  simp only [Option.bind_some, if_true]
  rw [if_pos s2, s6]
  simp only [bne_self_eq_false]
  exact tail ha hb (by omega)

theorem WordArithmetic : stereopsislaw01_WordArithmetic.Pure := by
  intro w a b c _ _ _ _
  refine ⟨200, ?_⟩
  unfold stereopsislaw01_WordArithmetic.f
  rw [word_f w a (by omega), word_f w b (by omega), word_f w c (by omega)]
  simp only [Option.bind_some]
  by_cases ha : W8 w a
  · rw [if_pos (decide_eq_true ha)]
    by_cases hb : W8 w b
    · rw [if_pos (decide_eq_true hb)]
      by_cases hc : W8 w c
      · rw [decide_eq_true hc]
        show stereopsislaw01_WordArithmetic.j0 (199 + 1) w a b c false = some true
        simp only [stereopsislaw01_WordArithmetic.j0]
        rw [if_neg (by decide), round (k := 198) ha hb hc (by omega) 0 2 (Or.inl rfl) (by omega) (by omega) (by decide +kernel), round (k := 197) ha hb hc (by omega) (0 + 1) 4 (Or.inr rfl) (by omega) (by omega) (by decide +kernel)]
        exact last ha hb hc (by omega)
      · rw [decide_eq_false hc]
        exact awake_j0 (by omega) _ _ _ _
    · rw [if_neg (by simpa using hb)]
      exact awake_j0 (by omega) _ _ _ _
  · rw [if_neg (by simpa using ha)]
    exact awake_j0 (by omega) _ _ _ _

end Go.Proofs.Ytcbglmdnfipgnaa.Pure
