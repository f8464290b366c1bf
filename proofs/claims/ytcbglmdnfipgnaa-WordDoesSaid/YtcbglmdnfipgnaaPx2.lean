/- A part of the proof of a law of the seat: Go functions as plain Lean functions, and the proofs that the machine's calls do what these do, under no condition but the row's own. Laid by this session's wip/tools/hprint.py, over the kit's print and this session's own contracts. -/
import Derived.Test.YtcbglmdnfipgnaaPx0
import Derived.Test.YtcbglmdnfipgnaaPx1
namespace Go.Proofs.Ytcbglmdnfipgnaa.P
open Go.RowKit Go.Proofs.YtcbglmdnfipgnaaW.PrintWords Go.Proofs.YtcbglmdnfipgnaaW.PrintLast Go.Proofs.YtcbglmdnfipgnaaW.PrintMore
attribute [local go_sem] max2_int min2_int max_two min_two max_three min_three max_four min_four   -- for this text's walks alone
set_option linter.unusedVariables false
set_option linter.unusedSimpArgs false

/-! ### word_Of: function 13 -/
mutual
def word_Of.j0 : Nat → List Int → Bool → Option (Int × Int)
  | 0, _, _ => none
  | k + 1, x0, x14 => if x14 = true then (some (0, 1)) else (word_Of.l0 k 0 x0 (x0.length : Int) 0)
def word_Of.l0 : Nat → Int → List Int → Int → Int → Option (Int × Int)
  | 0, _, _, _, _ => none
  | k + 1, x4, x15, x16, x17 => if x17 < x16 then (if 0 ≤ x17 then (if x17 < (x15.length : Int) then (if (rd x15 x17) = 0 then (if 0 ≤ (IntKind.u64.wrap (x17)) then (word_Of.l0 k (Go.bits .or .i64 x4 (shl .i64 (rd x15 x17) (IntKind.u64.wrap (x17)))) x15 x16 (wrap64 (x17 + 1))) else (none)) else (if (rd x15 x17) = 1 then (if 0 ≤ (IntKind.u64.wrap (x17)) then (word_Of.l0 k (Go.bits .or .i64 x4 (shl .i64 (rd x15 x17) (IntKind.u64.wrap (x17)))) x15 x16 (wrap64 (x17 + 1))) else (none)) else (some (0, 1)))) else (none)) else (none)) else (some (x4, 0))
end
def word_Of.f (k : Nat) (l0 : List Int) : Option (Int × Int) := if (l0.length : Int) < 1 then (word_Of.j0 k l0 true) else (word_Of.j0 k l0 (decide ((l0.length : Int) > 8)))
theorem word_Of.mono_l : ∀ k, (∀ y0 y1, LeO (word_Of.j0 k y0 y1) (word_Of.j0 (k + 1) y0 y1)) ∧ (∀ y0 y1 y2 y3, LeO (word_Of.l0 k y0 y1 y2 y3) (word_Of.l0 (k + 1) y0 y1 y2 y3))
  | 0 => ⟨fun _ _ r h => by simp [word_Of.j0] at h, fun _ _ _ _ r h => by simp [word_Of.l0] at h⟩
  | k + 1 => by
    obtain ⟨ih0, ih1⟩ := word_Of.mono_l k
    refine ⟨?_, ?_⟩
    · intro y0 y1
      unfold word_Of.j0
      repeat' first
      | (with_reducible exact ih0 _ _)
      | (with_reducible exact ih1 _ _ _ _)
      | (with_reducible exact LeO.refl _)
      | (with_reducible exact LeO.none _)
      | (with_reducible refine LeO.ite ?_ ?_)
      | (with_reducible refine LeO.bind ?_ (fun _ => ?_))
      | exact ih0 _ _
      | exact ih1 _ _ _ _
      | exact LeO.none _
      | refine LeO.ite ?_ ?_
      | refine LeO.bind ?_ (fun _ => ?_)
    · intro y0 y1 y2 y3
      unfold word_Of.l0
      repeat' first
      | (with_reducible exact ih0 _ _)
      | (with_reducible exact ih1 _ _ _ _)
      | (with_reducible exact LeO.refl _)
      | (with_reducible exact LeO.none _)
      | (with_reducible refine LeO.ite ?_ ?_)
      | (with_reducible refine LeO.bind ?_ (fun _ => ?_))
      | exact ih0 _ _
      | exact ih1 _ _ _ _
      | exact LeO.none _
      | refine LeO.ite ?_ ?_
      | refine LeO.bind ?_ (fun _ => ?_)
theorem word_Of.mono : ∀ a0 k, LeO (word_Of.f k a0) (word_Of.f (k + 1) a0) := by
  intro a0 k
  obtain ⟨ih0, ih1⟩ := word_Of.mono_l k
  unfold word_Of.f
  repeat' first
      | (with_reducible exact ih0 _ _)
      | (with_reducible exact ih1 _ _ _ _)
      | (with_reducible exact LeO.refl _)
      | (with_reducible exact LeO.none _)
      | (with_reducible refine LeO.ite ?_ ?_)
      | (with_reducible refine LeO.bind ?_ (fun _ => ?_))
      | exact ih0 _ _
      | exact ih1 _ _ _ _
      | exact LeO.none _
      | refine LeO.ite ?_ ?_
      | refine LeO.bind ?_ (fun _ => ?_)
set_option maxHeartbeats 8000000 in
set_option maxRecDepth 100000 in
theorem word_Of.calls (k : Nat) (A0 : Option Addr) (c0 : Nat) (l0 : List Int) (r1 : Int) (r2 : Int) (w : World) (hr0 : Kd.C (Kd.int .i64) w A0 l0.length l0) (hc0 : l0.length ≤ c0) (h : word_Of.f k l0 = some (r1, r2)) :
    Calls Try.prog 13 #[.slice A0 l0.length c0] w fun e w' => e = .returned (.tuple #[.int .i64 r1, .int .i64 r2]) ∧ Drawn0 w w' := by
  have HR0 := Aside0.mk hr0
  have HC0 := Aside0.mk hc0
  clear hr0 hc0
  have H : (if (l0.length : Int) < 1 then (word_Of.j0 k l0 true) else (word_Of.j0 k l0 (decide ((l0.length : Int) > 8)))) = some (r1, r2) := h
  clear h
  have HC2 := Aside0.mk H
  clear H
  go_enter Try.func13, Try.ntmps13
  go_upto_region 1 with (fail)
  go_cut [14] (fun v14 wc => ∃ (kq : Nat) (x14_1 : Bool), v14 = .bool x14_1 ∧ Aside0 (word_Of.j0 kq l0 x14_1 = some (r1, r2)) ∧ Aside0 (kq ≤ k) ∧ Drawn0 w wc)
  case first =>
    have H := HC2.out
    clear HC2
    by_cases c3 : (l0.length : Int) < 1
    · rw [if_pos c3] at H
      have c3b0 : decide ((l0.length : Int) < 1) = true := decide_eq_true c3
      have c3b1 : decide (l0.length < 1) = true := decide_eq_true (by omega)
      clear c3
      (first | rw [c3b0] | (simp only [i64_w, i32_w]; rw [c3b0]) | skip)
      as_aux_lemma =>
        have H' := Aside0.mk H
        clear H
        go_wp2
        go_meet
        case rel => exact ⟨_, (true), (by first | rfl | (simp; done) | (simp [*]; done)), H', ⟨by first | omega | exact Nat.le_refl _⟩, by repeat (first | exact Drawn0.refl _ | apply Drawn0.step)⟩
    · rw [if_neg c3] at H
      have c3b0 : decide ((l0.length : Int) < 1) = false := decide_eq_false c3
      have c3b1 : decide (l0.length < 1) = false := decide_eq_false (by omega)
      clear c3
      (first | rw [c3b0] | (simp only [i64_w, i32_w]; rw [c3b0]) | skip)
      as_aux_lemma =>
        have H' := Aside0.mk H
        clear H
        go_wp2
        go_meet
        case rel => exact ⟨_, (decide ((l0.length : Int) > 8)), (by first | rfl | (simp; done) | (simp [*]; done)), H', ⟨by first | omega | exact Nat.le_refl _⟩, by repeat (first | exact Drawn0.refl _ | apply Drawn0.step)⟩
  case rest =>
    clear HC2
    try clear c1
    try clear p2
    try clear c3
    try clear c3b0
    try clear c3b1
    obtain ⟨kq, x14_1, rfl, HA, HJ1, ⟨mc1, rfl⟩⟩ := hcut
    cases kq with
    | zero => exact absurd HA.out (by simp [word_Of.j0])
    | succ kj1 =>
      have H := HA.out
      clear HA
      simp only [word_Of.j0] at H
      by_cases c4 : x14_1 = true
      · subst c4
        have H1 : (some (0, 1)) = some (r1, r2) := by rw [if_pos rfl] at H; exact H
        clear H
        have H := H1
        clear H1
        as_aux_lemma =>
          simp only [Option.some.injEq, Prod.mk.injEq] at H
          obtain ⟨rfl, rfl⟩ := H
          go_wp2
          go_ret2
          exact ⟨by first | rfl | (simp; done) | (simp [*]; done), by repeat (first | exact Drawn0.refl _ | apply Drawn0.step)⟩
      · replace c4 := Bool.eq_false_iff.mpr c4
        subst c4
        have H1 : (word_Of.l0 kj1 0 l0 (l0.length : Int) 0) = some (r1, r2) := by rw [if_neg (show ¬ (false = true) by decide)] at H; exact H
        clear H
        have H := H1
        clear H1
        have H' := Aside0.mk H
        clear H
        go_wp2
        go_loopg [4, 17] kj1 (fun kq v4 v17 w' => ∃ (x4_2 : Int) (x17_2 : Int), v4 = .int .i64 x4_2 ∧ v17 = .int .i64 x17_2 ∧ Aside0 (word_Of.l0 kq x4_2 l0 (l0.length : Int) x17_2 = some (r1, r2)) ∧ Aside0 (kq ≤ kj1) ∧ Drawn0 w w')
        case atStart => exact ⟨(0), (0), (by first | rfl | (simp; done) | (simp [*]; done)), (by first | rfl | (simp; done) | (simp [*]; done)), H', ⟨Nat.le_refl _⟩, by repeat (first | exact Drawn0.refl _ | apply Drawn0.step)⟩
        case round =>
          clear H'
          try clear c1
          try clear p2
          try clear c3
          try clear c3b0
          try clear c3b1
          try clear c4
          try clear p2
          obtain ⟨x4_2, x17_2, rfl, rfl, HA, HK2, ⟨m2, rfl⟩⟩ := hrel
          cases gk with
          | zero => exact absurd HA.out (by simp [word_Of.l0])
          | succ k2 =>
            have H := HA.out
            clear HA
            simp only [word_Of.l0] at H
            by_cases c5 : x17_2 < (l0.length : Int)
            · rw [if_pos c5] at H
              have c5b0 : decide (x17_2 < (l0.length : Int)) = true := decide_eq_true c5
              clear c5
              by_cases c6 : 0 ≤ x17_2
              · rw [if_pos c6] at H
                have c6b0 : decide (0 ≤ x17_2) = true := decide_eq_true c6
                clear c6
                by_cases c7 : x17_2 < (l0.length : Int)
                · rw [if_pos c7] at H
                  have c7b0 : decide (x17_2 < (l0.length : Int)) = true := decide_eq_true c7
                  clear c7
                  by_cases c8 : (rd l0 x17_2) = 0
                  · rw [if_pos c8] at H
                    have c8b0 : ((rd l0 x17_2) == 0) = true := beq_iff_eq.mpr c8
                    have c8b1 : ((rd l0 x17_2) != 0) = false := bne_eq_false_iff_eq.mpr c8
                    clear c8
                    obtain ⟨ji9, hji9⟩ : ∃ j_ : Int, (IntKind.u64.wrap (x17_2)) = j_ := ⟨_, rfl⟩
                    replace H : (if 0 ≤ (ji9) then (word_Of.l0 k2 (Go.bits .or .i64 x4_2 (shl .i64 (rd l0 x17_2) (ji9))) l0 (l0.length : Int) (wrap64 (x17_2 + 1))) else (none)) = some (r1, r2) := by first | (rw [hji9] at H; exact H) | (simp only [hji9] at H ⊢; exact H)
                    by_cases c10 : 0 ≤ (ji9)
                    · rw [if_pos c10] at H
                      have c10b0 := eq_true c10
                      have c10b1 : decide (0 ≤ (ji9)) = true := decide_eq_true c10
                      clear c10
                      obtain ⟨ji11, hji11⟩ : ∃ j_ : Int, (shl .i64 (rd l0 x17_2) (ji9)) = j_ := ⟨_, rfl⟩
                      replace H : (word_Of.l0 k2 (Go.bits .or .i64 x4_2 (ji11)) l0 (l0.length : Int) (wrap64 (x17_2 + 1))) = some (r1, r2) := by first | (rw [hji11] at H; exact H) | (simp only [hji11] at H ⊢; exact H)
                      have hji11_ : (IntKind.i64.wrap ((rd l0 x17_2) * 2 ^ min (ji9).toNat 64)) = ji11 := hji11
                      have hji11z : (ji9) ≤ 64 → (IntKind.i64.wrap ((rd l0 x17_2) * 2 ^ (ji9).toNat)) = ji11 := shl_small hji11
                      have hji11y : (wrap64 ((rd l0 x17_2) * 2 ^ min (ji9).toNat 64)) = ji11 := (i64_w _).symm.trans hji11_
                      have hji11x : (ji9) ≤ 64 → (wrap64 ((rd l0 x17_2) * 2 ^ (ji9).toNat)) = ji11 := fun h_ => (i64_w _).symm.trans (hji11z h_)
                      as_aux_lemma =>
                        have H' := Aside0.mk H
                        clear H
                        have p119 : 0 ≤ (x17_2 : Int) := of_decide_eq_true (by first | (with_reducible assumption) | assumption)
                        have q119 : x17_2 < (l0.length : Int) := of_decide_eq_true (by first | (with_reducible assumption) | assumption)
                        obtain ⟨ad119, e119, hx119_0⟩ := Kd.at_int HR0.out x17_2 p119 q119
                        cases e119
                        replace p119 := eq_true p119
                        replace q119 := eq_true q119
                        go_wp2
                        go_roundg k2
                        case measure => have := HJ1.out; have := HK2.out; omega
                        case rel => exact ⟨(Go.bits .or .i64 x4_2 (ji11)), (wrap64 (x17_2 + 1)), (by first | rfl | (simp; done) | (simp only [← hji11] <;> (first | rfl | simp)) | (simp [*]; done)), (by first | rfl | (simp; done) | (simp [*]; done)), H', ⟨by have := HJ1.out; have := HK2.out; omega⟩, by repeat (first | exact Drawn0.refl _ | apply Drawn0.step)⟩
                    · rw [if_neg c10] at H
                      exact absurd H (by simp)
                  · rw [if_neg c8] at H
                    have c8b0 : ((rd l0 x17_2) == 0) = false := beq_eq_false_iff_ne.mpr c8
                    have c8b1 : ((rd l0 x17_2) != 0) = true := bne_iff_ne.mpr c8
                    by_cases c12 : (rd l0 x17_2) = 1
                    · rw [if_pos c12] at H
                      have c12b0 : ((rd l0 x17_2) == 1) = true := beq_iff_eq.mpr c12
                      have c12b1 : ((rd l0 x17_2) != 1) = false := bne_eq_false_iff_eq.mpr c12
                      clear c12
                      obtain ⟨ji13, hji13⟩ : ∃ j_ : Int, (IntKind.u64.wrap (x17_2)) = j_ := ⟨_, rfl⟩
                      replace H : (if 0 ≤ (ji13) then (word_Of.l0 k2 (Go.bits .or .i64 x4_2 (shl .i64 (rd l0 x17_2) (ji13))) l0 (l0.length : Int) (wrap64 (x17_2 + 1))) else (none)) = some (r1, r2) := by first | (rw [hji13] at H; exact H) | (simp only [hji13] at H ⊢; exact H)
                      by_cases c14 : 0 ≤ (ji13)
                      · rw [if_pos c14] at H
                        have c14b0 := eq_true c14
                        have c14b1 : decide (0 ≤ (ji13)) = true := decide_eq_true c14
                        clear c14
                        obtain ⟨ji15, hji15⟩ : ∃ j_ : Int, (shl .i64 (rd l0 x17_2) (ji13)) = j_ := ⟨_, rfl⟩
                        replace H : (word_Of.l0 k2 (Go.bits .or .i64 x4_2 (ji15)) l0 (l0.length : Int) (wrap64 (x17_2 + 1))) = some (r1, r2) := by first | (rw [hji15] at H; exact H) | (simp only [hji15] at H ⊢; exact H)
                        have hji15_ : (IntKind.i64.wrap ((rd l0 x17_2) * 2 ^ min (ji13).toNat 64)) = ji15 := hji15
                        have hji15z : (ji13) ≤ 64 → (IntKind.i64.wrap ((rd l0 x17_2) * 2 ^ (ji13).toNat)) = ji15 := shl_small hji15
                        have hji15y : (wrap64 ((rd l0 x17_2) * 2 ^ min (ji13).toNat 64)) = ji15 := (i64_w _).symm.trans hji15_
                        have hji15x : (ji13) ≤ 64 → (wrap64 ((rd l0 x17_2) * 2 ^ (ji13).toNat)) = ji15 := fun h_ => (i64_w _).symm.trans (hji15z h_)
                        as_aux_lemma =>
                          have H' := Aside0.mk H
                          clear H
                          have p119 : 0 ≤ (x17_2 : Int) := of_decide_eq_true (by first | (with_reducible assumption) | assumption)
                          have q119 : x17_2 < (l0.length : Int) := of_decide_eq_true (by first | (with_reducible assumption) | assumption)
                          obtain ⟨ad119, e119, hx119_0⟩ := Kd.at_int HR0.out x17_2 p119 q119
                          cases e119
                          replace p119 := eq_true p119
                          replace q119 := eq_true q119
                          go_wp2
                          go_roundg k2
                          case measure => have := HJ1.out; have := HK2.out; omega
                          case rel => exact ⟨(Go.bits .or .i64 x4_2 (ji15)), (wrap64 (x17_2 + 1)), (by first | rfl | (simp; done) | (simp only [← hji15] <;> (first | rfl | simp)) | (simp [*]; done)), (by first | rfl | (simp; done) | (simp [*]; done)), H', ⟨by have := HJ1.out; have := HK2.out; omega⟩, by repeat (first | exact Drawn0.refl _ | apply Drawn0.step)⟩
                      · rw [if_neg c14] at H
                        exact absurd H (by simp)
                    · rw [if_neg c12] at H
                      have c12b0 : ((rd l0 x17_2) == 1) = false := beq_eq_false_iff_ne.mpr c12
                      have c12b1 : ((rd l0 x17_2) != 1) = true := bne_iff_ne.mpr c12
                      as_aux_lemma =>
                        simp only [Option.some.injEq, Prod.mk.injEq] at H
                        obtain ⟨rfl, rfl⟩ := H
                        have p119 : 0 ≤ (x17_2 : Int) := of_decide_eq_true (by first | (with_reducible assumption) | assumption)
                        have q119 : x17_2 < (l0.length : Int) := of_decide_eq_true (by first | (with_reducible assumption) | assumption)
                        obtain ⟨ad119, e119, hx119_0⟩ := Kd.at_int HR0.out x17_2 p119 q119
                        cases e119
                        replace p119 := eq_true p119
                        replace q119 := eq_true q119
                        go_wp2
                        go_ret2
                        exact ⟨by first | rfl | (simp; done) | (simp [*]; done), by repeat (first | exact Drawn0.refl _ | apply Drawn0.step)⟩
                · rw [if_neg c7] at H
                  exact absurd H (by simp)
              · rw [if_neg c6] at H
                exact absurd H (by simp)
            · rw [if_neg c5] at H
              have c5b0 : decide (x17_2 < (l0.length : Int)) = false := decide_eq_false c5
              clear c5
              as_aux_lemma =>
                simp only [Option.some.injEq, Prod.mk.injEq] at H
                obtain ⟨rfl, rfl⟩ := H
                go_wp2
                go_ret2
                exact ⟨by first | rfl | (simp; done) | (simp [*]; done), by repeat (first | exact Drawn0.refl _ | apply Drawn0.step)⟩

/-! ### word_Not: function 17 -/
def word_Not.f (k : Nat) (a0 : Int) (a1 : Int) : Option (Int × Int) := (word_ok.f k a0 (([a1] : List Int))).bind fun t123 => (if t123 = true then ((word_top.f a0).bind fun t124 => (some (Go.bits .andNot .i64 t124 a1, 0))) else (some (0, 1)))
theorem word_Not.mono : ∀ a0 a1 k, LeO (word_Not.f k a0 a1) (word_Not.f (k + 1) a0 a1) := by
  intro a0 a1 k
  unfold word_Not.f
  repeat' first
      | (with_reducible exact word_ok.mono _ _ _)
      | (with_reducible exact LeO.refl _)
      | (with_reducible exact LeO.none _)
      | (with_reducible refine LeO.ite ?_ ?_)
      | (with_reducible refine LeO.bind ?_ (fun _ => ?_))
      | exact word_ok.mono _ _ _
      | exact LeO.none _
      | refine LeO.ite ?_ ?_
      | refine LeO.bind ?_ (fun _ => ?_)
set_option maxHeartbeats 8000000 in
set_option maxRecDepth 100000 in
theorem word_Not.calls (k : Nat) (a0 : Int) (a1 : Int) (r1 : Int) (r2 : Int) (w : World) (h : word_Not.f k a0 a1 = some (r1, r2)) :
    Calls Try.prog 17 #[.int .i64 a0, .int .i64 a1] w fun e w' => e = .returned (.tuple #[.int .i64 r1, .int .i64 r2]) ∧ Below w.heap.size w w' := by
  have HB := Aside0.mk (Below.refl w.heap.size w)
  have H : ((word_ok.f k a0 (([a1] : List Int))).bind fun t123 => (if t123 = true then ((word_top.f a0).bind fun t124 => (some (Go.bits .andNot .i64 t124 a1, 0))) else (some (0, 1)))) = some (r1, r2) := h
  clear h
  obtain ⟨y120, hy120⟩ : ∃ y_ : List Int, y_ = (([a1] : List Int)) := ⟨_, rfl⟩
  replace H : ((word_ok.f k a0 y120).bind fun t123 => (if t123 = true then ((word_top.f a0).bind fun t124 => (some (Go.bits .andNot .i64 t124 a1, 0))) else (some (0, 1)))) = some (r1, r2) := by first | (rw [hy120]; with_reducible exact H) | (have H2_ := (Option.bind_some _ _).symm.trans H; rw [hy120]; with_reducible exact H2_) | (have H2_ := (Option.bind_some _ _).symm.trans H; with_reducible exact H2_) | with_reducible exact H | (rw [hy120]; exact H) | exact H
  have Ny120 := Aside0.mk hy120
  clear hy120
  replace H := Option.bind_eq_some_iff.mp H
  obtain ⟨t123, A30, H⟩ := H
  replace H : (if t123 = true then ((word_top.f a0).bind fun t124 => (some (Go.bits .andNot .i64 t124 a1, 0))) else (some (0, 1))) = some (r1, r2) := H
  have A3 := Aside0.mk A30
  clear A30
  by_cases c4 : t123 = true
  · subst c4
    have H1 : ((word_top.f a0).bind fun t124 => (some (Go.bits .andNot .i64 t124 a1, 0))) = some (r1, r2) := by rw [if_pos rfl] at H; exact H
    clear H
    have H := H1
    clear H1
    replace H := Option.bind_eq_some_iff.mp H
    obtain ⟨t124, A50, H⟩ := H
    replace H : (some (Go.bits .andNot .i64 t124 a1, 0)) = some (r1, r2) := H
    have A5 := Aside0.mk A50
    clear A50
    as_aux_lemma =>
      simp only [Option.some.injEq, Prod.mk.injEq] at H
      obtain ⟨rfl, rfl⟩ := H
      go_enter Try.func17, Try.ntmps17
      go_wp2_with (first | ((with_reducible refine gate_dst (N := 8) rfl ?_); refine Kd.R_lit (Kd.int .i64) _ 3 ?hg (N := 8) ?hd (xs := ([a1] : List Int)) (inner := [.int .i64 a1]) (ok := fun _ => True) (okp := fun _ => True) ?hr ?hp (fun _ hk => hk) trivial (Below.refl _ _) (Nat.le_refl _) (by simp) ?_; (case hd => rfl); (case hg => rfl); (case hr => first | (go_simp; done) | (go_simp; rfl)); (case hp => exact (Reps.one (show Kd.M (Kd.int .i64) _ _ _ a1 [.int .i64 a1] from rfl) (Reps.none _ _))); intro v121 w6 ho7 hb hg_ hnew_; clear hg_ hnew_; (first | rw [← Ny120.out] at ho7 | (simp only [Int.reduceToNat] at ho7; rw [← Ny120.out] at ho7)); have n0_ := Aside0.mk (Kd.R_lower ho7 (below_size (by repeat (first | (with_reducible first | exact HB.out | apply below_alloc | apply pw_below_drewN | apply below_drew1) | exact HB.out)))); have n1_ := Aside0.mk (below_step (by repeat (first | (with_reducible first | exact HB.out | apply below_alloc | apply pw_below_drewN | apply below_drew1) | exact HB.out)) hb); clear HB; have HO122 := n0_; have HB := n1_; clear n0_ n1_; clear hb ho7; obtain ⟨Ao8, co8, eo8⟩ := Kd.R_slice HO122.out; subst eo8) | ((with_reducible refine gate_callee (f := 28) rfl ?_); refine goesL_ (some 9) rfl rfl Try.func28 (by kernel_rfl) rfl #[.int .i64 a0, .slice Ao8 y120.length co8] rfl (by (try simp only [List.map_toArray, List.map_cons, List.map_nil]); first | done | rfl | (simp only [List.length_drop, List.length_take]; rfl)) ?_; (with_reducible refine (word_ok.calls k a0 _ _ y120 true _ ?side1 ?side2 A3.out).mono ?_); (case side1 => repeat (first | exact (Kd.R_reads' HO122.out).2.2 | (with_reducible refine Kd.C_alloc ?_ _) | (with_reducible refine Kd.C_drewN ?_ _) | (with_reducible refine Kd.C_drew ?_))); (case side2 => exact (Kd.R_reads' HO122.out).2.1); rintro e w' ⟨rfl, ⟨nd, rfl⟩⟩; refine ⟨_, rfl, ?_⟩) | ((with_reducible refine gate_callee (f := 30) rfl ?_); refine goesL_ (some 12) rfl rfl Try.func30 (by kernel_rfl) rfl #[.int .i64 a0] rfl (by (try simp only [List.map_toArray, List.map_cons, List.map_nil]); first | done | rfl | (simp only [List.length_drop, List.length_take]; rfl)) ?_; (with_reducible refine (word_top.calls a0 t124 _ A5.out).mono ?_); rintro e w' ⟨rfl, ⟨nd, rfl⟩⟩; refine ⟨_, rfl, ?_⟩))
      go_ret2
      exact ⟨by first | rfl | (simp [errW_none, errW_some] <;> rfl) | (simp [*, errW_none, errW_some] <;> rfl), by repeat (first | (with_reducible first | exact HB.out | apply below_alloc | apply pw_below_drewN | apply below_drew1) | exact HB.out)⟩
  · replace c4 := Bool.eq_false_iff.mpr c4
    subst c4
    have H1 : (some (0, 1)) = some (r1, r2) := by rw [if_neg (show ¬ (false = true) by decide)] at H; exact H
    clear H
    have H := H1
    clear H1
    as_aux_lemma =>
      simp only [Option.some.injEq, Prod.mk.injEq] at H
      obtain ⟨rfl, rfl⟩ := H
      go_enter Try.func17, Try.ntmps17
      go_wp2_with (first | ((with_reducible refine gate_dst (N := 8) rfl ?_); refine Kd.R_lit (Kd.int .i64) _ 3 ?hg (N := 8) ?hd (xs := ([a1] : List Int)) (inner := [.int .i64 a1]) (ok := fun _ => True) (okp := fun _ => True) ?hr ?hp (fun _ hk => hk) trivial (Below.refl _ _) (Nat.le_refl _) (by simp) ?_; (case hd => rfl); (case hg => rfl); (case hr => first | (go_simp; done) | (go_simp; rfl)); (case hp => exact (Reps.one (show Kd.M (Kd.int .i64) _ _ _ a1 [.int .i64 a1] from rfl) (Reps.none _ _))); intro v121 w9 ho10 hb hg_ hnew_; clear hg_ hnew_; (first | rw [← Ny120.out] at ho10 | (simp only [Int.reduceToNat] at ho10; rw [← Ny120.out] at ho10)); have n0_ := Aside0.mk (Kd.R_lower ho10 (below_size (by repeat (first | (with_reducible first | exact HB.out | apply below_alloc | apply pw_below_drewN | apply below_drew1) | exact HB.out)))); have n1_ := Aside0.mk (below_step (by repeat (first | (with_reducible first | exact HB.out | apply below_alloc | apply pw_below_drewN | apply below_drew1) | exact HB.out)) hb); clear HB; have HO122 := n0_; have HB := n1_; clear n0_ n1_; clear hb ho10; obtain ⟨Ao11, co11, eo11⟩ := Kd.R_slice HO122.out; subst eo11) | ((with_reducible refine gate_callee (f := 28) rfl ?_); refine goesL_ (some 9) rfl rfl Try.func28 (by kernel_rfl) rfl #[.int .i64 a0, .slice Ao11 y120.length co11] rfl (by (try simp only [List.map_toArray, List.map_cons, List.map_nil]); first | done | rfl | (simp only [List.length_drop, List.length_take]; rfl)) ?_; (with_reducible refine (word_ok.calls k a0 _ _ y120 false _ ?side1 ?side2 A3.out).mono ?_); (case side1 => repeat (first | exact (Kd.R_reads' HO122.out).2.2 | (with_reducible refine Kd.C_alloc ?_ _) | (with_reducible refine Kd.C_drewN ?_ _) | (with_reducible refine Kd.C_drew ?_))); (case side2 => exact (Kd.R_reads' HO122.out).2.1); rintro e w' ⟨rfl, ⟨nd, rfl⟩⟩; refine ⟨_, rfl, ?_⟩))
      go_ret2
      exact ⟨by first | rfl | (simp [errW_none, errW_some] <;> rfl) | (simp [*, errW_none, errW_some] <;> rfl), by repeat (first | (with_reducible first | exact HB.out | apply below_alloc | apply pw_below_drewN | apply below_drew1) | exact HB.out)⟩

/-! ### word_does_1: function 33 -/
def word_does_1.f (a0 : Int) (a1 : Int) (a2 : Int) : Option (Int) := some (wrap64 (a1 + a2))
set_option maxHeartbeats 8000000 in
set_option maxRecDepth 100000 in
theorem word_does_1.calls (a0 : Int) (a1 : Int) (a2 : Int) (r : Int) (w : World) (h : word_does_1.f a0 a1 a2 = some r) :
    Calls Try.prog 33 #[.int .i64 a0, .int .i64 a1, .int .i64 a2] w fun e w' => e = .returned (.int .i64 r) ∧ Drawn0 w w' := by
  have H : (some (wrap64 (a1 + a2))) = some r := h
  clear h
  as_aux_lemma =>
    obtain rfl := Option.some.inj H
    go_enter Try.func33, Try.ntmps33
    go_wp2
    go_ret
    exact ⟨by first | rfl | (simp; done) | (simp [*]; done), by repeat (first | exact Drawn0.refl _ | apply Drawn0.step)⟩

/-! ### word_does_2: function 34 -/
def word_does_2.f (a0 : Int) (a1 : Int) (a2 : Int) : Option (Int) := some (wrap64 (a1 - a2))
set_option maxHeartbeats 8000000 in
set_option maxRecDepth 100000 in
theorem word_does_2.calls (a0 : Int) (a1 : Int) (a2 : Int) (r : Int) (w : World) (h : word_does_2.f a0 a1 a2 = some r) :
    Calls Try.prog 34 #[.int .i64 a0, .int .i64 a1, .int .i64 a2] w fun e w' => e = .returned (.int .i64 r) ∧ Drawn0 w w' := by
  have H : (some (wrap64 (a1 - a2))) = some r := h
  clear h
  as_aux_lemma =>
    obtain rfl := Option.some.inj H
    go_enter Try.func34, Try.ntmps34
    go_wp2
    go_ret
    exact ⟨by first | rfl | (simp; done) | (simp [*]; done), by repeat (first | exact Drawn0.refl _ | apply Drawn0.step)⟩

/-! ### word_does_3: function 35 -/
def word_does_3.f (a0 : Int) (a1 : Int) (a2 : Int) : Option (Int) := some (wrap64 (a1 * a2))
set_option maxHeartbeats 8000000 in
set_option maxRecDepth 100000 in
theorem word_does_3.calls (a0 : Int) (a1 : Int) (a2 : Int) (r : Int) (w : World) (h : word_does_3.f a0 a1 a2 = some r) :
    Calls Try.prog 35 #[.int .i64 a0, .int .i64 a1, .int .i64 a2] w fun e w' => e = .returned (.int .i64 r) ∧ Drawn0 w w' := by
  have H : (some (wrap64 (a1 * a2))) = some r := h
  clear h
  as_aux_lemma =>
    obtain rfl := Option.some.inj H
    go_enter Try.func35, Try.ntmps35
    go_wp2
    go_ret
    exact ⟨by first | rfl | (simp; done) | (simp [*]; done), by repeat (first | exact Drawn0.refl _ | apply Drawn0.step)⟩

/-! ### word_does_4: function 36 -/
def word_does_4.f (a0 : Int) (a1 : Int) (a2 : Int) : Option (Int) := if a2 = 0 then ((word_top.f a0).bind fun t125 => (some t125)) else (some (wrap64 (Int.tdiv a1 a2)))
set_option maxHeartbeats 8000000 in
set_option maxRecDepth 100000 in
theorem word_does_4.calls (a0 : Int) (a1 : Int) (a2 : Int) (r : Int) (w : World) (h : word_does_4.f a0 a1 a2 = some r) :
    Calls Try.prog 36 #[.int .i64 a0, .int .i64 a1, .int .i64 a2] w fun e w' => e = .returned (.int .i64 r) ∧ Drawn0 w w' := by
  have H : (if a2 = 0 then ((word_top.f a0).bind fun t125 => (some t125)) else (some (wrap64 (Int.tdiv a1 a2)))) = some r := h
  clear h
  by_cases c4 : a2 = 0
  · rw [if_pos c4] at H
    have c4b0 : (a2 == 0) = true := beq_iff_eq.mpr c4
    have c4b1 : (a2 != 0) = false := bne_eq_false_iff_eq.mpr c4
    clear c4
    replace H := Option.bind_eq_some_iff.mp H
    obtain ⟨t125, A50, H⟩ := H
    replace H : (some t125) = some r := H
    have A5 := Aside0.mk A50
    clear A50
    as_aux_lemma =>
      obtain rfl := Option.some.inj H
      go_enter Try.func36, Try.ntmps36
      go_wp2_with (first | ((with_reducible refine gate_callee (f := 30) rfl ?_); refine goesL_ (some 10) rfl rfl Try.func30 (by kernel_rfl) rfl #[.int .i64 a0] rfl (by (try simp only [List.map_toArray, List.map_cons, List.map_nil]); first | done | rfl | (simp only [List.length_drop, List.length_take]; rfl)) ?_; (with_reducible refine (word_top.calls a0 t125 _ A5.out).mono ?_); rintro e w' ⟨rfl, ⟨nd, rfl⟩⟩; refine ⟨_, rfl, ?_⟩))
      go_ret
      exact ⟨by first | rfl | (simp; done) | (simp [*]; done), by repeat (first | exact Drawn0.refl _ | apply Drawn0.step)⟩
  · rw [if_neg c4] at H
    have c4b0 : (a2 == 0) = false := beq_eq_false_iff_ne.mpr c4
    have c4b1 : (a2 != 0) = true := bne_iff_ne.mpr c4
    as_aux_lemma =>
      obtain rfl := Option.some.inj H
      go_enter Try.func36, Try.ntmps36
      go_wp2
      go_ret
      exact ⟨by first | rfl | (simp; done) | (simp [*]; done), by repeat (first | exact Drawn0.refl _ | apply Drawn0.step)⟩

/-! ### word_does_5: function 37 -/
def word_does_5.f (a0 : Int) (a1 : Int) (a2 : Int) : Option (Int) := if a2 = 0 then (some a1) else (some (Int.tmod a1 a2))
set_option maxHeartbeats 8000000 in
set_option maxRecDepth 100000 in
theorem word_does_5.calls (a0 : Int) (a1 : Int) (a2 : Int) (r : Int) (w : World) (h : word_does_5.f a0 a1 a2 = some r) :
    Calls Try.prog 37 #[.int .i64 a0, .int .i64 a1, .int .i64 a2] w fun e w' => e = .returned (.int .i64 r) ∧ Drawn0 w w' := by
  have H : (if a2 = 0 then (some a1) else (some (Int.tmod a1 a2))) = some r := h
  clear h
  by_cases c4 : a2 = 0
  · rw [if_pos c4] at H
    have c4b0 : (a2 == 0) = true := beq_iff_eq.mpr c4
    have c4b1 : (a2 != 0) = false := bne_eq_false_iff_eq.mpr c4
    clear c4
    as_aux_lemma =>
      obtain rfl := Option.some.inj H
      go_enter Try.func37, Try.ntmps37
      go_wp2
      go_ret
      exact ⟨by first | rfl | (simp; done) | (simp [*]; done), by repeat (first | exact Drawn0.refl _ | apply Drawn0.step)⟩
  · rw [if_neg c4] at H
    have c4b0 : (a2 == 0) = false := beq_eq_false_iff_ne.mpr c4
    have c4b1 : (a2 != 0) = true := bne_iff_ne.mpr c4
    as_aux_lemma =>
      obtain rfl := Option.some.inj H
      go_enter Try.func37, Try.ntmps37
      go_wp2
      go_ret
      exact ⟨by first | rfl | (simp; done) | (simp [*]; done), by repeat (first | exact Drawn0.refl _ | apply Drawn0.step)⟩

/-! ### word_does_6: function 38 -/
def word_does_6.f (a0 : Int) (a1 : Int) (a2 : Int) : Option (Int) := some (Go.bits .and .i64 a1 a2)
set_option maxHeartbeats 8000000 in
set_option maxRecDepth 100000 in
theorem word_does_6.calls (a0 : Int) (a1 : Int) (a2 : Int) (r : Int) (w : World) (h : word_does_6.f a0 a1 a2 = some r) :
    Calls Try.prog 38 #[.int .i64 a0, .int .i64 a1, .int .i64 a2] w fun e w' => e = .returned (.int .i64 r) ∧ Drawn0 w w' := by
  have H : (some (Go.bits .and .i64 a1 a2)) = some r := h
  clear h
  as_aux_lemma =>
    obtain rfl := Option.some.inj H
    go_enter Try.func38, Try.ntmps38
    go_wp2
    go_ret
    exact ⟨by first | rfl | (simp; done) | (simp [*]; done), by repeat (first | exact Drawn0.refl _ | apply Drawn0.step)⟩

/-! ### word_does_7: function 39 -/
def word_does_7.f (a0 : Int) (a1 : Int) (a2 : Int) : Option (Int) := some (Go.bits .or .i64 a1 a2)
set_option maxHeartbeats 8000000 in
set_option maxRecDepth 100000 in
theorem word_does_7.calls (a0 : Int) (a1 : Int) (a2 : Int) (r : Int) (w : World) (h : word_does_7.f a0 a1 a2 = some r) :
    Calls Try.prog 39 #[.int .i64 a0, .int .i64 a1, .int .i64 a2] w fun e w' => e = .returned (.int .i64 r) ∧ Drawn0 w w' := by
  have H : (some (Go.bits .or .i64 a1 a2)) = some r := h
  clear h
  as_aux_lemma =>
    obtain rfl := Option.some.inj H
    go_enter Try.func39, Try.ntmps39
    go_wp2
    go_ret
    exact ⟨by first | rfl | (simp; done) | (simp [*]; done), by repeat (first | exact Drawn0.refl _ | apply Drawn0.step)⟩

/-! ### word_does_8: function 40 -/
def word_does_8.f (a0 : Int) (a1 : Int) (a2 : Int) : Option (Int) := some (Go.bits .xor .i64 a1 a2)
set_option maxHeartbeats 8000000 in
set_option maxRecDepth 100000 in
theorem word_does_8.calls (a0 : Int) (a1 : Int) (a2 : Int) (r : Int) (w : World) (h : word_does_8.f a0 a1 a2 = some r) :
    Calls Try.prog 40 #[.int .i64 a0, .int .i64 a1, .int .i64 a2] w fun e w' => e = .returned (.int .i64 r) ∧ Drawn0 w w' := by
  have H : (some (Go.bits .xor .i64 a1 a2)) = some r := h
  clear h
  as_aux_lemma =>
    obtain rfl := Option.some.inj H
    go_enter Try.func40, Try.ntmps40
    go_wp2
    go_ret
    exact ⟨by first | rfl | (simp; done) | (simp [*]; done), by repeat (first | exact Drawn0.refl _ | apply Drawn0.step)⟩

/-! ### word_shifted: function 42 -/
def word_shifted.f (a0 : Int) (a1 : Int) (a2 : Int) (a3 : Bool) : Option (Int) := if a2 ≥ a0 then (some 0) else (if a3 = true then (if 0 ≤ (IntKind.u64.wrap (a2)) then (some (shl .i64 a1 (IntKind.u64.wrap (a2)))) else (none)) else (if 0 ≤ (IntKind.u64.wrap (a2)) then (some (shr .i64 a1 (IntKind.u64.wrap (a2)))) else (none)))
set_option maxHeartbeats 8000000 in
set_option maxRecDepth 100000 in
theorem word_shifted.calls (a0 : Int) (a1 : Int) (a2 : Int) (a3 : Bool) (r : Int) (w : World) (h : word_shifted.f a0 a1 a2 a3 = some r) :
    Calls Try.prog 42 #[.int .i64 a0, .int .i64 a1, .int .i64 a2, .bool a3] w fun e w' => e = .returned (.int .i64 r) ∧ Drawn0 w w' := by
  have H : (if a2 ≥ a0 then (some 0) else (if a3 = true then (if 0 ≤ (IntKind.u64.wrap (a2)) then (some (shl .i64 a1 (IntKind.u64.wrap (a2)))) else (none)) else (if 0 ≤ (IntKind.u64.wrap (a2)) then (some (shr .i64 a1 (IntKind.u64.wrap (a2)))) else (none)))) = some r := h
  clear h
  by_cases c5 : a2 ≥ a0
  · rw [if_pos c5] at H
    have c5b0 : decide (a0 ≤ a2) = true := decide_eq_true c5
    clear c5
    as_aux_lemma =>
      obtain rfl := Option.some.inj H
      go_enter Try.func42, Try.ntmps42
      go_wp2
      go_ret
      exact ⟨by first | rfl | (simp; done) | (simp [*]; done), by repeat (first | exact Drawn0.refl _ | apply Drawn0.step)⟩
  · rw [if_neg c5] at H
    have c5b0 : decide (a0 ≤ a2) = false := decide_eq_false c5
    clear c5
    by_cases c6 : a3 = true
    · subst c6
      have H1 : (if 0 ≤ (IntKind.u64.wrap (a2)) then (some (shl .i64 a1 (IntKind.u64.wrap (a2)))) else (none)) = some r := by rw [if_pos rfl] at H; exact H
      clear H
      have H := H1
      clear H1
      obtain ⟨ji7, hji7⟩ : ∃ j_ : Int, (IntKind.u64.wrap (a2)) = j_ := ⟨_, rfl⟩
      replace H : (if 0 ≤ (ji7) then (some (shl .i64 a1 (ji7))) else (none)) = some r := by first | (rw [hji7] at H; exact H) | (simp only [hji7] at H ⊢; exact H)
      by_cases c8 : 0 ≤ (ji7)
      · rw [if_pos c8] at H
        have c8b0 := eq_true c8
        have c8b1 : decide (0 ≤ (ji7)) = true := decide_eq_true c8
        clear c8
        obtain ⟨ji9, hji9⟩ : ∃ j_ : Int, (shl .i64 a1 (ji7)) = j_ := ⟨_, rfl⟩
        replace H : (some ji9) = some r := by first | (rw [hji9] at H; exact H) | (simp only [hji9] at H ⊢; exact H)
        have hji9_ : (IntKind.i64.wrap (a1 * 2 ^ min (ji7).toNat 64)) = ji9 := hji9
        have hji9z : (ji7) ≤ 64 → (IntKind.i64.wrap (a1 * 2 ^ (ji7).toNat)) = ji9 := shl_small hji9
        have hji9y : (wrap64 (a1 * 2 ^ min (ji7).toNat 64)) = ji9 := (i64_w _).symm.trans hji9_
        have hji9x : (ji7) ≤ 64 → (wrap64 (a1 * 2 ^ (ji7).toNat)) = ji9 := fun h_ => (i64_w _).symm.trans (hji9z h_)
        as_aux_lemma =>
          obtain rfl := Option.some.inj H
          go_enter Try.func42, Try.ntmps42
          go_wp2
          go_ret
          exact ⟨by first | rfl | (simp; done) | (simp only [← hji7, ← hji9] <;> (first | rfl | simp)) | (simp [*]; done), by repeat (first | exact Drawn0.refl _ | apply Drawn0.step)⟩
      · rw [if_neg c8] at H
        exact absurd H (by simp)
    · replace c6 := Bool.eq_false_iff.mpr c6
      subst c6
      have H1 : (if 0 ≤ (IntKind.u64.wrap (a2)) then (some (shr .i64 a1 (IntKind.u64.wrap (a2)))) else (none)) = some r := by rw [if_neg (show ¬ (false = true) by decide)] at H; exact H
      clear H
      have H := H1
      clear H1
      obtain ⟨ji10, hji10⟩ : ∃ j_ : Int, (IntKind.u64.wrap (a2)) = j_ := ⟨_, rfl⟩
      replace H : (if 0 ≤ (ji10) then (some (shr .i64 a1 (ji10))) else (none)) = some r := by first | (rw [hji10] at H; exact H) | (simp only [hji10] at H ⊢; exact H)
      by_cases c11 : 0 ≤ (ji10)
      · rw [if_pos c11] at H
        have c11b0 := eq_true c11
        have c11b1 : decide (0 ≤ (ji10)) = true := decide_eq_true c11
        clear c11
        obtain ⟨ji12, hji12⟩ : ∃ j_ : Int, (shr .i64 a1 (ji10)) = j_ := ⟨_, rfl⟩
        replace H : (some ji12) = some r := by first | (rw [hji12] at H; exact H) | (simp only [hji12] at H ⊢; exact H)
        have hji12_ : (a1 / 2 ^ min (ji10).toNat 64) = ji12 := hji12
        have hji12z : (ji10) ≤ 64 → (a1 / 2 ^ (ji10).toNat) = ji12 := shr_small hji12
        as_aux_lemma =>
          obtain rfl := Option.some.inj H
          go_enter Try.func42, Try.ntmps42
          go_wp2
          go_ret
          exact ⟨by first | rfl | (simp; done) | (simp only [← hji10, ← hji12] <;> (first | rfl | simp)) | (simp [*]; done), by repeat (first | exact Drawn0.refl _ | apply Drawn0.step)⟩
      · rw [if_neg c11] at H
        exact absurd H (by simp)

/-! ### word_does_9: function 41 -/
def word_does_9.f (a0 : Int) (a1 : Int) (a2 : Int) : Option (Int) := (word_shifted.f a0 a1 a2 true).bind fun t126 => (some t126)
set_option maxHeartbeats 8000000 in
set_option maxRecDepth 100000 in
theorem word_does_9.calls (a0 : Int) (a1 : Int) (a2 : Int) (r : Int) (w : World) (h : word_does_9.f a0 a1 a2 = some r) :
    Calls Try.prog 41 #[.int .i64 a0, .int .i64 a1, .int .i64 a2] w fun e w' => e = .returned (.int .i64 r) ∧ Drawn0 w w' := by
  have H : ((word_shifted.f a0 a1 a2 true).bind fun t126 => (some t126)) = some r := h
  clear h
  replace H := Option.bind_eq_some_iff.mp H
  obtain ⟨t126, A40, H⟩ := H
  replace H : (some t126) = some r := H
  have A4 := Aside0.mk A40
  clear A40
  as_aux_lemma =>
    obtain rfl := Option.some.inj H
    go_enter Try.func41, Try.ntmps41
    go_wp2_with (first | ((with_reducible refine gate_callee (f := 42) rfl ?_); refine goesL_ (some 10) rfl rfl Try.func42 (by kernel_rfl) rfl #[.int .i64 a0, .int .i64 a1, .int .i64 a2, .bool true] rfl (by (try simp only [List.map_toArray, List.map_cons, List.map_nil]); first | done | rfl | (simp only [List.length_drop, List.length_take]; rfl)) ?_; (with_reducible refine (word_shifted.calls a0 a1 a2 true t126 _ A4.out).mono ?_); rintro e w' ⟨rfl, ⟨nd, rfl⟩⟩; refine ⟨_, rfl, ?_⟩))
    go_ret
    exact ⟨by first | rfl | (simp; done) | (simp [*]; done), by repeat (first | exact Drawn0.refl _ | apply Drawn0.step)⟩

/-! ### word_does_10: function 43 -/
def word_does_10.f (a0 : Int) (a1 : Int) (a2 : Int) : Option (Int) := (word_shifted.f a0 a1 a2 false).bind fun t127 => (some t127)
set_option maxHeartbeats 8000000 in
set_option maxRecDepth 100000 in
theorem word_does_10.calls (a0 : Int) (a1 : Int) (a2 : Int) (r : Int) (w : World) (h : word_does_10.f a0 a1 a2 = some r) :
    Calls Try.prog 43 #[.int .i64 a0, .int .i64 a1, .int .i64 a2] w fun e w' => e = .returned (.int .i64 r) ∧ Drawn0 w w' := by
  have H : ((word_shifted.f a0 a1 a2 false).bind fun t127 => (some t127)) = some r := h
  clear h
  replace H := Option.bind_eq_some_iff.mp H
  obtain ⟨t127, A40, H⟩ := H
  replace H : (some t127) = some r := H
  have A4 := Aside0.mk A40
  clear A40
  as_aux_lemma =>
    obtain rfl := Option.some.inj H
    go_enter Try.func43, Try.ntmps43
    go_wp2_with (first | ((with_reducible refine gate_callee (f := 42) rfl ?_); refine goesL_ (some 10) rfl rfl Try.func42 (by kernel_rfl) rfl #[.int .i64 a0, .int .i64 a1, .int .i64 a2, .bool false] rfl (by (try simp only [List.map_toArray, List.map_cons, List.map_nil]); first | done | rfl | (simp only [List.length_drop, List.length_take]; rfl)) ?_; (with_reducible refine (word_shifted.calls a0 a1 a2 false t127 _ A4.out).mono ?_); rintro e w' ⟨rfl, ⟨nd, rfl⟩⟩; refine ⟨_, rfl, ?_⟩))
    go_ret
    exact ⟨by first | rfl | (simp; done) | (simp [*]; done), by repeat (first | exact Drawn0.refl _ | apply Drawn0.step)⟩

/-! ### word_truth: function 45 -/
def word_truth.f (a0 : Bool) : Option (Int) := if a0 = true then (some 1) else (some 0)
set_option maxHeartbeats 8000000 in
set_option maxRecDepth 100000 in
theorem word_truth.calls (a0 : Bool) (r : Int) (w : World) (h : word_truth.f a0 = some r) :
    Calls Try.prog 45 #[.bool a0] w fun e w' => e = .returned (.int .i64 r) ∧ Drawn0 w w' := by
  have H : (if a0 = true then (some 1) else (some 0)) = some r := h
  clear h
  by_cases c2 : a0 = true
  · subst c2
    have H1 : (some 1) = some r := by rw [if_pos rfl] at H; exact H
    clear H
    have H := H1
    clear H1
    as_aux_lemma =>
      obtain rfl := Option.some.inj H
      go_enter Try.func45, Try.ntmps45
      go_wp2
      go_ret
      exact ⟨by first | rfl | (simp; done) | (simp [*]; done), by repeat (first | exact Drawn0.refl _ | apply Drawn0.step)⟩
  · replace c2 := Bool.eq_false_iff.mpr c2
    subst c2
    have H1 : (some 0) = some r := by rw [if_neg (show ¬ (false = true) by decide)] at H; exact H
    clear H
    have H := H1
    clear H1
    as_aux_lemma =>
      obtain rfl := Option.some.inj H
      go_enter Try.func45, Try.ntmps45
      go_wp2
      go_ret
      exact ⟨by first | rfl | (simp; done) | (simp [*]; done), by repeat (first | exact Drawn0.refl _ | apply Drawn0.step)⟩

/-! ### word_does_11: function 44 -/
def word_does_11.f (a0 : Int) (a1 : Int) (a2 : Int) : Option (Int) := (word_truth.f (a1 == a2)).bind fun t128 => (some t128)
set_option maxHeartbeats 8000000 in
set_option maxRecDepth 100000 in
theorem word_does_11.calls (a0 : Int) (a1 : Int) (a2 : Int) (r : Int) (w : World) (h : word_does_11.f a0 a1 a2 = some r) :
    Calls Try.prog 44 #[.int .i64 a0, .int .i64 a1, .int .i64 a2] w fun e w' => e = .returned (.int .i64 r) ∧ Drawn0 w w' := by
  have H : ((word_truth.f (a1 == a2)).bind fun t128 => (some t128)) = some r := h
  clear h
  replace H := Option.bind_eq_some_iff.mp H
  obtain ⟨t128, A40, H⟩ := H
  replace H : (some t128) = some r := H
  have A4 := Aside0.mk A40
  clear A40
  as_aux_lemma =>
    obtain rfl := Option.some.inj H
    go_enter Try.func44, Try.ntmps44
    go_wp2_with (first | ((with_reducible refine gate_callee (f := 45) rfl ?_); refine goesL_ (some 10) rfl rfl Try.func45 (by kernel_rfl) rfl #[.bool (a1 == a2)] rfl (by (try simp only [List.map_toArray, List.map_cons, List.map_nil]); first | done | rfl | (simp only [List.length_drop, List.length_take]; rfl)) ?_; (with_reducible refine (word_truth.calls (a1 == a2) t128 _ A4.out).mono ?_); rintro e w' ⟨rfl, ⟨nd, rfl⟩⟩; refine ⟨_, rfl, ?_⟩))
    go_ret
    exact ⟨by first | rfl | (simp; done) | (simp [*]; done), by repeat (first | exact Drawn0.refl _ | apply Drawn0.step)⟩

/-! ### word_does_12: function 46 -/
def word_does_12.f (a0 : Int) (a1 : Int) (a2 : Int) : Option (Int) := (word_truth.f (decide (a1 < a2))).bind fun t129 => (some t129)
set_option maxHeartbeats 8000000 in
set_option maxRecDepth 100000 in
theorem word_does_12.calls (a0 : Int) (a1 : Int) (a2 : Int) (r : Int) (w : World) (h : word_does_12.f a0 a1 a2 = some r) :
    Calls Try.prog 46 #[.int .i64 a0, .int .i64 a1, .int .i64 a2] w fun e w' => e = .returned (.int .i64 r) ∧ Drawn0 w w' := by
  have H : ((word_truth.f (decide (a1 < a2))).bind fun t129 => (some t129)) = some r := h
  clear h
  replace H := Option.bind_eq_some_iff.mp H
  obtain ⟨t129, A40, H⟩ := H
  replace H : (some t129) = some r := H
  have A4 := Aside0.mk A40
  clear A40
  as_aux_lemma =>
    obtain rfl := Option.some.inj H
    go_enter Try.func46, Try.ntmps46
    go_wp2_with (first | ((with_reducible refine gate_callee (f := 45) rfl ?_); refine goesL_ (some 10) rfl rfl Try.func45 (by kernel_rfl) rfl #[.bool (decide (a1 < a2))] rfl (by (try simp only [List.map_toArray, List.map_cons, List.map_nil]); first | done | rfl | (simp only [List.length_drop, List.length_take]; rfl)) ?_; (with_reducible refine (word_truth.calls (decide (a1 < a2)) t129 _ A4.out).mono ?_); rintro e w' ⟨rfl, ⟨nd, rfl⟩⟩; refine ⟨_, rfl, ?_⟩))
    go_ret
    exact ⟨by first | rfl | (simp; done) | (simp [*]; done), by repeat (first | exact Drawn0.refl _ | apply Drawn0.step)⟩

/-! ### word_does: function 31 -/
def word_does.e1 : Array MapEntry := #[{ key := .int .i64 2, val := .func (.func 33) #[] #[], born := 0 }]
def word_does.e2 : Array MapEntry := #[{ key := .int .i64 2, val := .func (.func 33) #[] #[], born := 0 }, { key := .int .i64 3, val := .func (.func 34) #[] #[], born := 1 }]
def word_does.e3 : Array MapEntry := #[{ key := .int .i64 2, val := .func (.func 33) #[] #[], born := 0 }, { key := .int .i64 3, val := .func (.func 34) #[] #[], born := 1 }, { key := .int .i64 4, val := .func (.func 35) #[] #[], born := 2 }]
def word_does.e4 : Array MapEntry := #[{ key := .int .i64 2, val := .func (.func 33) #[] #[], born := 0 }, { key := .int .i64 3, val := .func (.func 34) #[] #[], born := 1 }, { key := .int .i64 4, val := .func (.func 35) #[] #[], born := 2 }, { key := .int .i64 5, val := .func (.func 36) #[] #[], born := 3 }]
def word_does.e5 : Array MapEntry := #[{ key := .int .i64 2, val := .func (.func 33) #[] #[], born := 0 }, { key := .int .i64 3, val := .func (.func 34) #[] #[], born := 1 }, { key := .int .i64 4, val := .func (.func 35) #[] #[], born := 2 }, { key := .int .i64 5, val := .func (.func 36) #[] #[], born := 3 }, { key := .int .i64 6, val := .func (.func 37) #[] #[], born := 4 }]
def word_does.e6 : Array MapEntry := #[{ key := .int .i64 2, val := .func (.func 33) #[] #[], born := 0 }, { key := .int .i64 3, val := .func (.func 34) #[] #[], born := 1 }, { key := .int .i64 4, val := .func (.func 35) #[] #[], born := 2 }, { key := .int .i64 5, val := .func (.func 36) #[] #[], born := 3 }, { key := .int .i64 6, val := .func (.func 37) #[] #[], born := 4 }, { key := .int .i64 7, val := .func (.func 38) #[] #[], born := 5 }]
def word_does.e7 : Array MapEntry := #[{ key := .int .i64 2, val := .func (.func 33) #[] #[], born := 0 }, { key := .int .i64 3, val := .func (.func 34) #[] #[], born := 1 }, { key := .int .i64 4, val := .func (.func 35) #[] #[], born := 2 }, { key := .int .i64 5, val := .func (.func 36) #[] #[], born := 3 }, { key := .int .i64 6, val := .func (.func 37) #[] #[], born := 4 }, { key := .int .i64 7, val := .func (.func 38) #[] #[], born := 5 }, { key := .int .i64 8, val := .func (.func 39) #[] #[], born := 6 }]
def word_does.e8 : Array MapEntry := #[{ key := .int .i64 2, val := .func (.func 33) #[] #[], born := 0 }, { key := .int .i64 3, val := .func (.func 34) #[] #[], born := 1 }, { key := .int .i64 4, val := .func (.func 35) #[] #[], born := 2 }, { key := .int .i64 5, val := .func (.func 36) #[] #[], born := 3 }, { key := .int .i64 6, val := .func (.func 37) #[] #[], born := 4 }, { key := .int .i64 7, val := .func (.func 38) #[] #[], born := 5 }, { key := .int .i64 8, val := .func (.func 39) #[] #[], born := 6 }, { key := .int .i64 9, val := .func (.func 40) #[] #[], born := 7 }]
def word_does.e9 : Array MapEntry := #[{ key := .int .i64 2, val := .func (.func 33) #[] #[], born := 0 }, { key := .int .i64 3, val := .func (.func 34) #[] #[], born := 1 }, { key := .int .i64 4, val := .func (.func 35) #[] #[], born := 2 }, { key := .int .i64 5, val := .func (.func 36) #[] #[], born := 3 }, { key := .int .i64 6, val := .func (.func 37) #[] #[], born := 4 }, { key := .int .i64 7, val := .func (.func 38) #[] #[], born := 5 }, { key := .int .i64 8, val := .func (.func 39) #[] #[], born := 6 }, { key := .int .i64 9, val := .func (.func 40) #[] #[], born := 7 }, { key := .int .i64 10, val := .func (.func 41) #[] #[], born := 8 }]
def word_does.e10 : Array MapEntry := #[{ key := .int .i64 2, val := .func (.func 33) #[] #[], born := 0 }, { key := .int .i64 3, val := .func (.func 34) #[] #[], born := 1 }, { key := .int .i64 4, val := .func (.func 35) #[] #[], born := 2 }, { key := .int .i64 5, val := .func (.func 36) #[] #[], born := 3 }, { key := .int .i64 6, val := .func (.func 37) #[] #[], born := 4 }, { key := .int .i64 7, val := .func (.func 38) #[] #[], born := 5 }, { key := .int .i64 8, val := .func (.func 39) #[] #[], born := 6 }, { key := .int .i64 9, val := .func (.func 40) #[] #[], born := 7 }, { key := .int .i64 10, val := .func (.func 41) #[] #[], born := 8 }, { key := .int .i64 11, val := .func (.func 43) #[] #[], born := 9 }]
def word_does.e11 : Array MapEntry := #[{ key := .int .i64 2, val := .func (.func 33) #[] #[], born := 0 }, { key := .int .i64 3, val := .func (.func 34) #[] #[], born := 1 }, { key := .int .i64 4, val := .func (.func 35) #[] #[], born := 2 }, { key := .int .i64 5, val := .func (.func 36) #[] #[], born := 3 }, { key := .int .i64 6, val := .func (.func 37) #[] #[], born := 4 }, { key := .int .i64 7, val := .func (.func 38) #[] #[], born := 5 }, { key := .int .i64 8, val := .func (.func 39) #[] #[], born := 6 }, { key := .int .i64 9, val := .func (.func 40) #[] #[], born := 7 }, { key := .int .i64 10, val := .func (.func 41) #[] #[], born := 8 }, { key := .int .i64 11, val := .func (.func 43) #[] #[], born := 9 }, { key := .int .i64 13, val := .func (.func 44) #[] #[], born := 10 }]
def word_does.e12 : Array MapEntry := #[{ key := .int .i64 2, val := .func (.func 33) #[] #[], born := 0 }, { key := .int .i64 3, val := .func (.func 34) #[] #[], born := 1 }, { key := .int .i64 4, val := .func (.func 35) #[] #[], born := 2 }, { key := .int .i64 5, val := .func (.func 36) #[] #[], born := 3 }, { key := .int .i64 6, val := .func (.func 37) #[] #[], born := 4 }, { key := .int .i64 7, val := .func (.func 38) #[] #[], born := 5 }, { key := .int .i64 8, val := .func (.func 39) #[] #[], born := 6 }, { key := .int .i64 9, val := .func (.func 40) #[] #[], born := 7 }, { key := .int .i64 10, val := .func (.func 41) #[] #[], born := 8 }, { key := .int .i64 11, val := .func (.func 43) #[] #[], born := 9 }, { key := .int .i64 13, val := .func (.func 44) #[] #[], born := 10 }, { key := .int .i64 14, val := .func (.func 46) #[] #[], born := 11 }]
def word_does.find (n : Int) : Option (Nat × Value) := if n = 2 then some (0, .func (.func 33) #[] #[]) else if n = 3 then some (1, .func (.func 34) #[] #[]) else if n = 4 then some (2, .func (.func 35) #[] #[]) else if n = 5 then some (3, .func (.func 36) #[] #[]) else if n = 6 then some (4, .func (.func 37) #[] #[]) else if n = 7 then some (5, .func (.func 38) #[] #[]) else if n = 8 then some (6, .func (.func 39) #[] #[]) else if n = 9 then some (7, .func (.func 40) #[] #[]) else if n = 10 then some (8, .func (.func 41) #[] #[]) else if n = 11 then some (9, .func (.func 43) #[] #[]) else if n = 13 then some (10, .func (.func 44) #[] #[]) else if n = 14 then some (11, .func (.func 46) #[] #[]) else none
def word_does.pick (n : Int) : Value := HMap.pickOf .nilFunc (word_does.find n)
theorem word_does.pick_2 : word_does.pick 2 = .func (.func 33) #[] #[] := rfl
theorem word_does.pick_3 : word_does.pick 3 = .func (.func 34) #[] #[] := rfl
theorem word_does.pick_4 : word_does.pick 4 = .func (.func 35) #[] #[] := rfl
theorem word_does.pick_5 : word_does.pick 5 = .func (.func 36) #[] #[] := rfl
theorem word_does.pick_6 : word_does.pick 6 = .func (.func 37) #[] #[] := rfl
theorem word_does.pick_7 : word_does.pick 7 = .func (.func 38) #[] #[] := rfl
theorem word_does.pick_8 : word_does.pick 8 = .func (.func 39) #[] #[] := rfl
theorem word_does.pick_9 : word_does.pick 9 = .func (.func 40) #[] #[] := rfl
theorem word_does.pick_10 : word_does.pick 10 = .func (.func 41) #[] #[] := rfl
theorem word_does.pick_11 : word_does.pick 11 = .func (.func 43) #[] #[] := rfl
theorem word_does.pick_13 : word_does.pick 13 = .func (.func 44) #[] #[] := rfl
theorem word_does.pick_14 : word_does.pick 14 = .func (.func 46) #[] #[] := rfl
theorem word_does.pick_no (n : Int) (h2 : n ≠ 2) (h3 : n ≠ 3) (h4 : n ≠ 4) (h5 : n ≠ 5) (h6 : n ≠ 6) (h7 : n ≠ 7) (h8 : n ≠ 8) (h9 : n ≠ 9) (h10 : n ≠ 10) (h11 : n ≠ 11) (h13 : n ≠ 13) (h14 : n ≠ 14) : word_does.pick n = .nilFunc := by
  have e : word_does.find n = none := by
    unfold word_does.find
    rw [if_neg h2, if_neg h3, if_neg h4, if_neg h5, if_neg h6, if_neg h7, if_neg h8, if_neg h9, if_neg h10, if_neg h11, if_neg h13, if_neg h14]
  unfold word_does.pick
  rw [e]
  rfl
theorem word_does.found (n : Int) : Instr.findNow (.int .i64) (.int .i64 n) word_does.e12.toList 0 = some (word_does.find n) := by
  unfold word_does.find word_does.e12
  by_cases h2 : n = 2
  · subst h2; rfl
  by_cases h3 : n = 3
  · subst h3; rfl
  by_cases h4 : n = 4
  · subst h4; rfl
  by_cases h5 : n = 5
  · subst h5; rfl
  by_cases h6 : n = 6
  · subst h6; rfl
  by_cases h7 : n = 7
  · subst h7; rfl
  by_cases h8 : n = 8
  · subst h8; rfl
  by_cases h9 : n = 9
  · subst h9; rfl
  by_cases h10 : n = 10
  · subst h10; rfl
  by_cases h11 : n = 11
  · subst h11; rfl
  by_cases h13 : n = 13
  · subst h13; rfl
  by_cases h14 : n = 14
  · subst h14; rfl
  rw [if_neg h2, if_neg h3, if_neg h4, if_neg h5, if_neg h6, if_neg h7, if_neg h8, if_neg h9, if_neg h10, if_neg h11, if_neg h13, if_neg h14]
  have b2 : (n == 2) = false := beq_eq_false_iff_ne.2 h2
  have b3 : (n == 3) = false := beq_eq_false_iff_ne.2 h3
  have b4 : (n == 4) = false := beq_eq_false_iff_ne.2 h4
  have b5 : (n == 5) = false := beq_eq_false_iff_ne.2 h5
  have b6 : (n == 6) = false := beq_eq_false_iff_ne.2 h6
  have b7 : (n == 7) = false := beq_eq_false_iff_ne.2 h7
  have b8 : (n == 8) = false := beq_eq_false_iff_ne.2 h8
  have b9 : (n == 9) = false := beq_eq_false_iff_ne.2 h9
  have b10 : (n == 10) = false := beq_eq_false_iff_ne.2 h10
  have b11 : (n == 11) = false := beq_eq_false_iff_ne.2 h11
  have b13 : (n == 13) = false := beq_eq_false_iff_ne.2 h13
  have b14 : (n == 14) = false := beq_eq_false_iff_ne.2 h14
  simp [Instr.findNow, Instr.sameNow, b2, b3, b4, b5, b6, b7, b8, b9, b10, b11, b13, b14]
set_option maxHeartbeats 4000000 in
set_option maxRecDepth 100000 in
theorem word_does.calls (a0 : Int) (w : World) :
    Calls Try.prog 31 #[.int .i64 a0] w fun e w' => e = .returned (word_does.pick a0) ∧ Below w.heap.size w w' := by
  have hmm := @run_makeMap Try.prog
  have hi0 : (Instr.mapUpdate 52 (.map (some w.heap.size)) (.int .i64 2) (.func (.func 33) #[] #[])).run Try.prog (w.alloc (.map #[] 0)) = .ok () (w.alloc (.map word_does.e1 1)) := HMap.run_insert_new Try.underlying52 Try.underlying3 w _ _ _ _ rfl
  have hi1 : (Instr.mapUpdate 52 (.map (some w.heap.size)) (.int .i64 3) (.func (.func 34) #[] #[])).run Try.prog (w.alloc (.map word_does.e1 1)) = .ok () (w.alloc (.map word_does.e2 2)) := HMap.run_insert_new Try.underlying52 Try.underlying3 w _ _ _ _ rfl
  have hi2 : (Instr.mapUpdate 52 (.map (some w.heap.size)) (.int .i64 4) (.func (.func 35) #[] #[])).run Try.prog (w.alloc (.map word_does.e2 2)) = .ok () (w.alloc (.map word_does.e3 3)) := HMap.run_insert_new Try.underlying52 Try.underlying3 w _ _ _ _ rfl
  have hi3 : (Instr.mapUpdate 52 (.map (some w.heap.size)) (.int .i64 5) (.func (.func 36) #[] #[])).run Try.prog (w.alloc (.map word_does.e3 3)) = .ok () (w.alloc (.map word_does.e4 4)) := HMap.run_insert_new Try.underlying52 Try.underlying3 w _ _ _ _ rfl
  have hi4 : (Instr.mapUpdate 52 (.map (some w.heap.size)) (.int .i64 6) (.func (.func 37) #[] #[])).run Try.prog (w.alloc (.map word_does.e4 4)) = .ok () (w.alloc (.map word_does.e5 5)) := HMap.run_insert_new Try.underlying52 Try.underlying3 w _ _ _ _ rfl
  have hi5 : (Instr.mapUpdate 52 (.map (some w.heap.size)) (.int .i64 7) (.func (.func 38) #[] #[])).run Try.prog (w.alloc (.map word_does.e5 5)) = .ok () (w.alloc (.map word_does.e6 6)) := HMap.run_insert_new Try.underlying52 Try.underlying3 w _ _ _ _ rfl
  have hi6 : (Instr.mapUpdate 52 (.map (some w.heap.size)) (.int .i64 8) (.func (.func 39) #[] #[])).run Try.prog (w.alloc (.map word_does.e6 6)) = .ok () (w.alloc (.map word_does.e7 7)) := HMap.run_insert_new Try.underlying52 Try.underlying3 w _ _ _ _ rfl
  have hi7 : (Instr.mapUpdate 52 (.map (some w.heap.size)) (.int .i64 9) (.func (.func 40) #[] #[])).run Try.prog (w.alloc (.map word_does.e7 7)) = .ok () (w.alloc (.map word_does.e8 8)) := HMap.run_insert_new Try.underlying52 Try.underlying3 w _ _ _ _ rfl
  have hi8 : (Instr.mapUpdate 52 (.map (some w.heap.size)) (.int .i64 10) (.func (.func 41) #[] #[])).run Try.prog (w.alloc (.map word_does.e8 8)) = .ok () (w.alloc (.map word_does.e9 9)) := HMap.run_insert_new Try.underlying52 Try.underlying3 w _ _ _ _ rfl
  have hi9 : (Instr.mapUpdate 52 (.map (some w.heap.size)) (.int .i64 11) (.func (.func 43) #[] #[])).run Try.prog (w.alloc (.map word_does.e9 9)) = .ok () (w.alloc (.map word_does.e10 10)) := HMap.run_insert_new Try.underlying52 Try.underlying3 w _ _ _ _ rfl
  have hi10 : (Instr.mapUpdate 52 (.map (some w.heap.size)) (.int .i64 13) (.func (.func 44) #[] #[])).run Try.prog (w.alloc (.map word_does.e10 10)) = .ok () (w.alloc (.map word_does.e11 11)) := HMap.run_insert_new Try.underlying52 Try.underlying3 w _ _ _ _ rfl
  have hi11 : (Instr.mapUpdate 52 (.map (some w.heap.size)) (.int .i64 14) (.func (.func 46) #[] #[])).run Try.prog (w.alloc (.map word_does.e11 11)) = .ok () (w.alloc (.map word_does.e12 12)) := HMap.run_insert_new Try.underlying52 Try.underlying3 w _ _ _ _ rfl
  have hl : (Instr.lookup 52 (.map (some w.heap.size)) (.int .i64 a0) false).run Try.prog (w.alloc (.map word_does.e12 12)) = .ok (word_does.pick a0) (w.alloc (.map word_does.e12 12)) := HMap.run_lookup_top Try.underlying52 Try.underlying3 w _ _ _ .nilFunc (by kernel_rfl) (word_does.found a0)
  go_enter Try.func31, Try.ntmps31
  go_wp2
  go_ret
  exact ⟨rfl, (Below.refl _ _).alloc (Nat.le_refl _) _⟩

end Go.Proofs.Ytcbglmdnfipgnaa.P
