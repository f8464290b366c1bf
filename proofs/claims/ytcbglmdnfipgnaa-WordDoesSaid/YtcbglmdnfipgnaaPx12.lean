/- A part of the proof of a law of the seat: Go functions as plain Lean functions, and the proofs that the machine's calls do what these do, under no condition but the row's own. Laid by this session's wip/tools/hprint.py, over the kit's print and this session's own contracts. -/
import Derived.Test.YtcbglmdnfipgnaaPx0
import Derived.Test.YtcbglmdnfipgnaaPx1
import Derived.Test.YtcbglmdnfipgnaaPx3
import Derived.Test.YtcbglmdnfipgnaaPx7
namespace Go.Proofs.Ytcbglmdnfipgnaa.P
open Go.RowKit Go.Proofs.YtcbglmdnfipgnaaW.PrintWords Go.Proofs.YtcbglmdnfipgnaaW.PrintLast Go.Proofs.YtcbglmdnfipgnaaW.PrintMore
attribute [local go_sem] max2_int min2_int max_two min_two max_three min_three max_four min_four   -- for this text's walks alone
set_option linter.unusedVariables false
set_option linter.unusedSimpArgs false

/-! ### word_Top: function 22 -/
def word_Top.f (k : Nat) (a0 : Int) : Option (Int × Int) := (word_ok.f k a0 ([] : List Int)).bind fun t305 => (if t305 = true then ((word_top.f a0).bind fun t306 => (some (t306, 0))) else (some (0, 1)))
theorem word_Top.mono : ∀ a0 k, LeO (word_Top.f k a0) (word_Top.f (k + 1) a0) := by
  intro a0 k
  unfold word_Top.f
  repeat' first
      | (with_reducible exact word_ok.mono _ _ _)
      | (with_reducible exact LeO.refl _)
      | (with_reducible exact LeO.none _)
      | (with_reducible refine LeO.ite ?_ ?_)
      | (with_reducible refine LeO.bind ?_ (fun _ => ?_))
      | exact word_ok.mono _ _ _
      | exact LeO.none _
      | refine LeO.ite ?_ ?_
      | refine LeO.bind ?_ (fun _ => ?_)
set_option maxHeartbeats 8000000 in
set_option maxRecDepth 100000 in
theorem word_Top.calls (k : Nat) (a0 : Int) (r1 : Int) (r2 : Int) (w : World) (h : word_Top.f k a0 = some (r1, r2)) :
    Calls Try.prog 22 #[.int .i64 a0] w fun e w' => e = .returned (.tuple #[.int .i64 r1, .int .i64 r2]) ∧ Drawn0 w w' := by
  have H : ((word_ok.f k a0 ([] : List Int)).bind fun t305 => (if t305 = true then ((word_top.f a0).bind fun t306 => (some (t306, 0))) else (some (0, 1)))) = some (r1, r2) := h
  clear h
  replace H := Option.bind_eq_some_iff.mp H
  obtain ⟨t305, A20, H⟩ := H
  replace H : (if t305 = true then ((word_top.f a0).bind fun t306 => (some (t306, 0))) else (some (0, 1))) = some (r1, r2) := H
  have A2 := Aside0.mk A20
  clear A20
  by_cases c3 : t305 = true
  · subst c3
    have H1 : ((word_top.f a0).bind fun t306 => (some (t306, 0))) = some (r1, r2) := by rw [if_pos rfl] at H; exact H
    clear H
    have H := H1
    clear H1
    replace H := Option.bind_eq_some_iff.mp H
    obtain ⟨t306, A40, H⟩ := H
    replace H : (some (t306, 0)) = some (r1, r2) := H
    have A4 := Aside0.mk A40
    clear A40
    as_aux_lemma =>
      simp only [Option.some.injEq, Prod.mk.injEq] at H
      obtain ⟨rfl, rfl⟩ := H
      go_enter Try.func22, Try.ntmps22
      go_wp2_with (first | ((with_reducible refine gate_callee (f := 28) rfl ?_); refine goesL_ (some 5) rfl rfl Try.func28 (by kernel_rfl) rfl #[.int .i64 a0, .slice none 0 0] rfl (by (try simp only [List.map_toArray, List.map_cons, List.map_nil]); first | done | rfl | (simp only [List.length_drop, List.length_take]; rfl)) ?_; (refine (word_ok.calls k a0 _ _ ([] : List Int) true _ ?side1 ?side2 A2.out).mono ?_); (case side1 => exact Kd.C_nil _ _); (case side2 => exact Nat.le_refl _); rintro e w' ⟨rfl, ⟨nd, rfl⟩⟩; refine ⟨_, rfl, ?_⟩) | ((with_reducible refine gate_callee (f := 30) rfl ?_); refine goesL_ (some 8) rfl rfl Try.func30 (by kernel_rfl) rfl #[.int .i64 a0] rfl (by (try simp only [List.map_toArray, List.map_cons, List.map_nil]); first | done | rfl | (simp only [List.length_drop, List.length_take]; rfl)) ?_; (with_reducible refine (word_top.calls a0 t306 _ A4.out).mono ?_); rintro e w' ⟨rfl, ⟨nd, rfl⟩⟩; refine ⟨_, rfl, ?_⟩))
      go_ret2
      exact ⟨by first | rfl | (simp; done) | (simp [*]; done), by repeat (first | exact Drawn0.refl _ | apply Drawn0.step)⟩
  · replace c3 := Bool.eq_false_iff.mpr c3
    subst c3
    have H1 : (some (0, 1)) = some (r1, r2) := by rw [if_neg (show ¬ (false = true) by decide)] at H; exact H
    clear H
    have H := H1
    clear H1
    as_aux_lemma =>
      simp only [Option.some.injEq, Prod.mk.injEq] at H
      obtain ⟨rfl, rfl⟩ := H
      go_enter Try.func22, Try.ntmps22
      go_wp2_with (first | ((with_reducible refine gate_callee (f := 28) rfl ?_); refine goesL_ (some 5) rfl rfl Try.func28 (by kernel_rfl) rfl #[.int .i64 a0, .slice none 0 0] rfl (by (try simp only [List.map_toArray, List.map_cons, List.map_nil]); first | done | rfl | (simp only [List.length_drop, List.length_take]; rfl)) ?_; (refine (word_ok.calls k a0 _ _ ([] : List Int) false _ ?side1 ?side2 A2.out).mono ?_); (case side1 => exact Kd.C_nil _ _); (case side2 => exact Nat.le_refl _); rintro e w' ⟨rfl, ⟨nd, rfl⟩⟩; refine ⟨_, rfl, ?_⟩))
      go_ret2
      exact ⟨by first | rfl | (simp; done) | (simp [*]; done), by repeat (first | exact Drawn0.refl _ | apply Drawn0.step)⟩

/-! ### stereopsisref01_Two: function 23 -/
def stereopsisref01_Two.f (a0 : Int) : Option (Bool) := if a0 ≥ 2 then (if a0 ≤ 11 then (some true) else (if a0 = 13 then (some true) else (some (a0 == 14)))) else (if a0 = 13 then (some true) else (some (a0 == 14)))
set_option maxHeartbeats 8000000 in
set_option maxRecDepth 100000 in
theorem stereopsisref01_Two.calls (a0 : Int) (r : Bool) (w : World) (h : stereopsisref01_Two.f a0 = some r) :
    Calls Try.prog 23 #[.int .i64 a0] w fun e w' => e = .returned (.bool r) ∧ Drawn0 w w' := by
  have H : (if a0 ≥ 2 then (if a0 ≤ 11 then (some true) else (if a0 = 13 then (some true) else (some (a0 == 14)))) else (if a0 = 13 then (some true) else (some (a0 == 14)))) = some r := h
  clear h
  by_cases c2 : a0 ≥ 2
  · rw [if_pos c2] at H
    have c2b0 : decide (2 ≤ a0) = true := decide_eq_true c2
    clear c2
    by_cases c3 : a0 ≤ 11
    · rw [if_pos c3] at H
      have c3b0 : decide (a0 ≤ 11) = true := decide_eq_true c3
      clear c3
      as_aux_lemma =>
        obtain rfl := Option.some.inj H
        go_enter Try.func23, Try.ntmps23
        go_wp2
        go_ret
        exact ⟨by first | rfl | (simp; done) | (simp [*]; done), by repeat (first | exact Drawn0.refl _ | apply Drawn0.step)⟩
    · rw [if_neg c3] at H
      have c3b0 : decide (a0 ≤ 11) = false := decide_eq_false c3
      clear c3
      by_cases c4 : a0 = 13
      · rw [if_pos c4] at H
        have c4b0 : (a0 == 13) = true := beq_iff_eq.mpr c4
        have c4b1 : (a0 != 13) = false := bne_eq_false_iff_eq.mpr c4
        clear c4
        as_aux_lemma =>
          obtain rfl := Option.some.inj H
          go_enter Try.func23, Try.ntmps23
          go_wp2
          go_ret
          exact ⟨by first | rfl | (simp; done) | (simp [*]; done), by repeat (first | exact Drawn0.refl _ | apply Drawn0.step)⟩
      · rw [if_neg c4] at H
        have c4b0 : (a0 == 13) = false := beq_eq_false_iff_ne.mpr c4
        have c4b1 : (a0 != 13) = true := bne_iff_ne.mpr c4
        as_aux_lemma =>
          obtain rfl := Option.some.inj H
          go_enter Try.func23, Try.ntmps23
          go_wp2
          go_ret
          exact ⟨by first | rfl | (simp; done) | (simp [*]; done), by repeat (first | exact Drawn0.refl _ | apply Drawn0.step)⟩
  · rw [if_neg c2] at H
    have c2b0 : decide (2 ≤ a0) = false := decide_eq_false c2
    clear c2
    by_cases c5 : a0 = 13
    · rw [if_pos c5] at H
      have c5b0 : (a0 == 13) = true := beq_iff_eq.mpr c5
      have c5b1 : (a0 != 13) = false := bne_eq_false_iff_eq.mpr c5
      clear c5
      as_aux_lemma =>
        obtain rfl := Option.some.inj H
        go_enter Try.func23, Try.ntmps23
        go_wp2
        go_ret
        exact ⟨by first | rfl | (simp; done) | (simp [*]; done), by repeat (first | exact Drawn0.refl _ | apply Drawn0.step)⟩
    · rw [if_neg c5] at H
      have c5b0 : (a0 == 13) = false := beq_eq_false_iff_ne.mpr c5
      have c5b1 : (a0 != 13) = true := bne_iff_ne.mpr c5
      as_aux_lemma =>
        obtain rfl := Option.some.inj H
        go_enter Try.func23, Try.ntmps23
        go_wp2
        go_ret
        exact ⟨by first | rfl | (simp; done) | (simp [*]; done), by repeat (first | exact Drawn0.refl _ | apply Drawn0.step)⟩

/-! ### stereopsisref01_Top: function 27 -/
def stereopsisref01_Top.f (k : Nat) (a0 : Int) : Option (Int) := (stereopsisref01_Pow.f k a0).bind fun t307 => (some (wrap64 (t307 - 1)))
theorem stereopsisref01_Top.mono : ∀ a0 k, LeO (stereopsisref01_Top.f k a0) (stereopsisref01_Top.f (k + 1) a0) := by
  intro a0 k
  unfold stereopsisref01_Top.f
  repeat' first
      | (with_reducible exact stereopsisref01_Pow.mono _ _)
      | (with_reducible exact LeO.refl _)
      | (with_reducible exact LeO.none _)
      | (with_reducible refine LeO.ite ?_ ?_)
      | (with_reducible refine LeO.bind ?_ (fun _ => ?_))
      | exact stereopsisref01_Pow.mono _ _
      | exact LeO.none _
      | refine LeO.ite ?_ ?_
      | refine LeO.bind ?_ (fun _ => ?_)
set_option maxHeartbeats 8000000 in
set_option maxRecDepth 100000 in
theorem stereopsisref01_Top.calls (k : Nat) (a0 : Int) (r : Int) (w : World) (h : stereopsisref01_Top.f k a0 = some r) :
    Calls Try.prog 27 #[.int .i64 a0] w fun e w' => e = .returned (.int .i64 r) ∧ Drawn0 w w' := by
  have H : ((stereopsisref01_Pow.f k a0).bind fun t307 => (some (wrap64 (t307 - 1)))) = some r := h
  clear h
  replace H := Option.bind_eq_some_iff.mp H
  obtain ⟨t307, A20, H⟩ := H
  replace H : (some (wrap64 (t307 - 1))) = some r := H
  have A2 := Aside0.mk A20
  clear A20
  as_aux_lemma =>
    obtain rfl := Option.some.inj H
    go_enter Try.func27, Try.ntmps27
    go_wp2_with (first | ((with_reducible refine gate_callee (f := 19) rfl ?_); refine goesL_ (some 4) rfl rfl Try.func19 (by kernel_rfl) rfl #[.int .i64 a0] rfl (by (try simp only [List.map_toArray, List.map_cons, List.map_nil]); first | done | rfl | (simp only [List.length_drop, List.length_take]; rfl)) ?_; (with_reducible refine (stereopsisref01_Pow.calls k a0 t307 _ A2.out).mono ?_); rintro e w' ⟨rfl, ⟨nd, rfl⟩⟩; refine ⟨_, rfl, ?_⟩))
    go_ret
    exact ⟨by first | rfl | (simp; done) | (simp [*]; done), by repeat (first | exact Drawn0.refl _ | apply Drawn0.step)⟩

/-! ### stereopsisref01_gate: function 47 -/
def stereopsisref01_gate.f (a0 : Int) (a1 : Int) (a2 : Int) : Option (Int) := if a0 = 7 then (some (wrap64 (a1 * a2))) else (if a0 = 8 then (some (wrap64 ((wrap64 (a1 + a2)) - (wrap64 (a1 * a2))))) else (some (Int.tmod (wrap64 (a1 + a2)) 2)))
set_option maxHeartbeats 8000000 in
set_option maxRecDepth 100000 in
theorem stereopsisref01_gate.calls (a0 : Int) (a1 : Int) (a2 : Int) (r : Int) (w : World) (h : stereopsisref01_gate.f a0 a1 a2 = some r) :
    Calls Try.prog 47 #[.int .i64 a0, .int .i64 a1, .int .i64 a2] w fun e w' => e = .returned (.int .i64 r) ∧ Drawn0 w w' := by
  have H : (if a0 = 7 then (some (wrap64 (a1 * a2))) else (if a0 = 8 then (some (wrap64 ((wrap64 (a1 + a2)) - (wrap64 (a1 * a2))))) else (some (Int.tmod (wrap64 (a1 + a2)) 2)))) = some r := h
  clear h
  by_cases c4 : a0 = 7
  · rw [if_pos c4] at H
    have c4b0 : (a0 == 7) = true := beq_iff_eq.mpr c4
    have c4b1 : (a0 != 7) = false := bne_eq_false_iff_eq.mpr c4
    clear c4
    as_aux_lemma =>
      obtain rfl := Option.some.inj H
      go_enter Try.func47, Try.ntmps47
      go_wp2
      go_ret
      exact ⟨by first | rfl | (simp; done) | (simp [*]; done), by repeat (first | exact Drawn0.refl _ | apply Drawn0.step)⟩
  · rw [if_neg c4] at H
    have c4b0 : (a0 == 7) = false := beq_eq_false_iff_ne.mpr c4
    have c4b1 : (a0 != 7) = true := bne_iff_ne.mpr c4
    by_cases c5 : a0 = 8
    · rw [if_pos c5] at H
      have c5b0 : (a0 == 8) = true := beq_iff_eq.mpr c5
      have c5b1 : (a0 != 8) = false := bne_eq_false_iff_eq.mpr c5
      clear c5
      as_aux_lemma =>
        obtain rfl := Option.some.inj H
        go_enter Try.func47, Try.ntmps47
        go_wp2
        go_ret
        exact ⟨by first | rfl | (simp; done) | (simp [*]; done), by repeat (first | exact Drawn0.refl _ | apply Drawn0.step)⟩
    · rw [if_neg c5] at H
      have c5b0 : (a0 == 8) = false := beq_eq_false_iff_ne.mpr c5
      have c5b1 : (a0 != 8) = true := bne_iff_ne.mpr c5
      as_aux_lemma =>
        obtain rfl := Option.some.inj H
        go_enter Try.func47, Try.ntmps47
        go_wp2
        go_ret
        exact ⟨by first | rfl | (simp; done) | (simp [*]; done), by repeat (first | exact Drawn0.refl _ | apply Drawn0.step)⟩

/-! ### stereopsisref01_each: function 32 -/
def stereopsisref01_each.l0 : Nat → Int → Int → Int → Int → List Int → Int → Option (Int)
  | 0, _, _, _, _, _, _ => none
  | k + 1, x0, x1, x2, x3, x9, x10 => if x10 < x1 then ((stereopsisref01_Bit.f k x2 x10).bind fun t308 => ((stereopsisref01_Bit.f k x3 x10).bind fun t309 => ((stereopsisref01_gate.f x0 t308 t309).bind fun t310 => (if x9.length < 17592186044416 then (stereopsisref01_each.l0 k x0 x1 x2 x3 (x9 ++ [t310]) (wrap64 (x10 + 1))) else (none))))) else ((stereopsisref01_Of.f k x9).bind fun t314 => (some t314))
def stereopsisref01_each.f (k : Nat) (a0 : Int) (a1 : Int) (a2 : Int) (a3 : Int) : Option (Int) := stereopsisref01_each.l0 k a0 a1 a2 a3 ([] : List Int) 0
theorem stereopsisref01_each.mono_l : ∀ k, (∀ y0 y1 y2 y3 y4 y5, LeO (stereopsisref01_each.l0 k y0 y1 y2 y3 y4 y5) (stereopsisref01_each.l0 (k + 1) y0 y1 y2 y3 y4 y5))
  | 0 => fun _ _ _ _ _ _ r h => by simp [stereopsisref01_each.l0] at h
  | k + 1 => by
    have ih0 := stereopsisref01_each.mono_l k
    · intro y0 y1 y2 y3 y4 y5
      unfold stereopsisref01_each.l0
      repeat' first
      | (with_reducible exact ih0 _ _ _ _ _ _)
      | (with_reducible exact stereopsisref01_Bit.mono _ _ _)
      | (with_reducible exact stereopsisref01_Of.mono _ _)
      | (with_reducible exact LeO.refl _)
      | (with_reducible exact LeO.none _)
      | (with_reducible refine LeO.ite ?_ ?_)
      | (with_reducible refine LeO.bind ?_ (fun _ => ?_))
      | exact ih0 _ _ _ _ _ _
      | exact stereopsisref01_Bit.mono _ _ _
      | exact stereopsisref01_Of.mono _ _
      | exact LeO.none _
      | refine LeO.ite ?_ ?_
      | refine LeO.bind ?_ (fun _ => ?_)
theorem stereopsisref01_each.mono : ∀ a0 a1 a2 a3 k, LeO (stereopsisref01_each.f k a0 a1 a2 a3) (stereopsisref01_each.f (k + 1) a0 a1 a2 a3) := by
  intro a0 a1 a2 a3 k
  have ih0 := stereopsisref01_each.mono_l k
  unfold stereopsisref01_each.f
  repeat' first
      | (with_reducible exact ih0 _ _ _ _ _ _)
      | (with_reducible exact stereopsisref01_Bit.mono _ _ _)
      | (with_reducible exact stereopsisref01_Of.mono _ _)
      | (with_reducible exact LeO.refl _)
      | (with_reducible exact LeO.none _)
      | (with_reducible refine LeO.ite ?_ ?_)
      | (with_reducible refine LeO.bind ?_ (fun _ => ?_))
      | exact ih0 _ _ _ _ _ _
      | exact stereopsisref01_Bit.mono _ _ _
      | exact stereopsisref01_Of.mono _ _
      | exact LeO.none _
      | refine LeO.ite ?_ ?_
      | refine LeO.bind ?_ (fun _ => ?_)
set_option maxHeartbeats 8000000 in
set_option maxRecDepth 100000 in
theorem stereopsisref01_each.calls (k : Nat) (a0 : Int) (a1 : Int) (a2 : Int) (a3 : Int) (r : Int) (w : World) (h : stereopsisref01_each.f k a0 a1 a2 a3 = some r) :
    Calls Try.prog 32 #[.int .i64 a0, .int .i64 a1, .int .i64 a2, .int .i64 a3] w fun e w' => e = .returned (.int .i64 r) ∧ Below w.heap.size w w' := by
  have HB := Aside0.mk (Below.refl w.heap.size w)
  have H : (stereopsisref01_each.l0 k a0 a1 a2 a3 ([] : List Int) 0) = some r := h
  clear h
  have H' := Aside0.mk H
  clear H
  go_enter Try.func32, Try.ntmps32
  go_wp2
  go_loopg [9, 10] k (fun kq v9 v10 w' => ∃ (x9_1 : List Int) (x10_1 : Int), v10 = .int .i64 x10_1 ∧ Aside0 (stereopsisref01_each.l0 kq a0 a1 a2 a3 x9_1 x10_1 = some r) ∧ Aside0 (kq ≤ k) ∧ Aside0 (Kd.R (Kd.int .i64) 3 w' w.heap.size (fun _ => True) v9 x9_1) ∧ Aside0 (Below w.heap.size w w'))
  case atStart => exact ⟨(([] : List Int)), (0), (by first | rfl | (simp; done) | (simp [*]; done)), H', ⟨Nat.le_refl _⟩, ⟨by first | exact Kd.R_nil _ _ _ _ _ | exact Kd.N_nil _ _ _ _ _ | exact Kd.V_nil _ _ _ _ _ | exact Kd.Q_nil _ _ _ _ _ | exact Kd.S_nil _ _ _ _ _⟩, ⟨by repeat (first | (with_reducible first | exact HB.out | apply below_alloc | apply pw_below_drewN | apply below_drew1) | exact HB.out)⟩⟩
  case round =>
    clear H'
    try clear p2
    try clear c3
    obtain ⟨x9_1, x10_1, rfl, HA, HK1, HO_9, HB⟩ := hrel
    cases gk with
    | zero => exact absurd HA.out (by simp [stereopsisref01_each.l0])
    | succ k1 =>
      have H := HA.out
      clear HA
      simp only [stereopsisref01_each.l0] at H
      by_cases c5 : x10_1 < a1
      · rw [if_pos c5] at H
        have c5b0 : decide (x10_1 < a1) = true := decide_eq_true c5
        clear c5
        replace H := Option.bind_eq_some_iff.mp H
        obtain ⟨t308, A60, H⟩ := H
        replace H : ((stereopsisref01_Bit.f k1 a3 x10_1).bind fun t309 => ((stereopsisref01_gate.f a0 t308 t309).bind fun t310 => (if x9_1.length < 17592186044416 then (stereopsisref01_each.l0 k1 a0 a1 a2 a3 (x9_1 ++ [t310]) (wrap64 (x10_1 + 1))) else (none)))) = some r := H
        have A6 := Aside0.mk A60
        clear A60
        replace H := Option.bind_eq_some_iff.mp H
        obtain ⟨t309, A70, H⟩ := H
        replace H : ((stereopsisref01_gate.f a0 t308 t309).bind fun t310 => (if x9_1.length < 17592186044416 then (stereopsisref01_each.l0 k1 a0 a1 a2 a3 (x9_1 ++ [t310]) (wrap64 (x10_1 + 1))) else (none))) = some r := H
        have A7 := Aside0.mk A70
        clear A70
        replace H := Option.bind_eq_some_iff.mp H
        obtain ⟨t310, A80, H⟩ := H
        replace H : (if x9_1.length < 17592186044416 then (stereopsisref01_each.l0 k1 a0 a1 a2 a3 (x9_1 ++ [t310]) (wrap64 (x10_1 + 1))) else (none)) = some r := H
        have A8 := Aside0.mk A80
        clear A80
        by_cases c9 : x9_1.length < 17592186044416
        · rw [if_pos c9] at H
          have LMc9 := Aside0.mk c9
          clear c9
          obtain ⟨y311, hy311⟩ : ∃ y_ : List Int, y_ = (x9_1 ++ [t310]) := ⟨_, rfl⟩
          replace H : (stereopsisref01_each.l0 k1 a0 a1 a2 a3 y311 (wrap64 (x10_1 + 1))) = some r := by first | (rw [hy311]; with_reducible exact H) | (have H2_ := (Option.bind_some _ _).symm.trans H; rw [hy311]; with_reducible exact H2_) | (have H2_ := (Option.bind_some _ _).symm.trans H; with_reducible exact H2_) | with_reducible exact H | (rw [hy311]; exact H) | exact H
          have Ny311 := Aside0.mk hy311
          clear hy311
          as_aux_lemma =>
            have H' := Aside0.mk H
            clear H
            go_wp2_with (first | ((with_reducible refine gate_callee (f := 29) rfl ?_); refine goesL_ (some 20) rfl rfl Try.func29 (by kernel_rfl) rfl #[.int .i64 a2, .int .i64 x10_1] rfl (by (try simp only [List.map_toArray, List.map_cons, List.map_nil]); first | done | rfl | (simp only [List.length_drop, List.length_take]; rfl)) ?_; (with_reducible refine (stereopsisref01_Bit.calls k1 a2 x10_1 t308 _ A6.out).mono ?_); rintro e w' ⟨rfl, ⟨nd, rfl⟩⟩; refine ⟨_, rfl, ?_⟩) | ((with_reducible refine gate_callee (f := 29) rfl ?_); refine goesL_ (some 23) rfl rfl Try.func29 (by kernel_rfl) rfl #[.int .i64 a3, .int .i64 x10_1] rfl (by (try simp only [List.map_toArray, List.map_cons, List.map_nil]); first | done | rfl | (simp only [List.length_drop, List.length_take]; rfl)) ?_; (with_reducible refine (stereopsisref01_Bit.calls k1 a3 x10_1 t309 _ A7.out).mono ?_); rintro e w' ⟨rfl, ⟨nd, rfl⟩⟩; refine ⟨_, rfl, ?_⟩) | ((with_reducible refine gate_callee (f := 47) rfl ?_); refine goesL_ (some 24) rfl rfl Try.func47 (by kernel_rfl) rfl #[.int .i64 a0, .int .i64 t308, .int .i64 t309] rfl (by (try simp only [List.map_toArray, List.map_cons, List.map_nil]); first | done | rfl | (simp only [List.length_drop, List.length_take]; rfl)) ?_; (with_reducible refine (stereopsisref01_gate.calls a0 t308 t309 t310 _ A8.out).mono ?_); rintro e w' ⟨rfl, ⟨nd, rfl⟩⟩; refine ⟨_, rfl, ?_⟩) | ((with_reducible refine gate_builtin (b := .append) (xs := #[.tmp 16, .tmp 25]) rfl ?_); at_builtin; refine Kd.R_append (Kd.int .i64) (w0 := w) w.heap.size rfl (.tmp 16) (.tmp 25) 22 3 (.int .i64 0) 8 rfl Try.underlying22 info3 rfl (by decide) (by omega) u9 x9_1 t310 [.int .i64 t310] (fun _ => True) (fun _ => False) rfl rfl ?aP (fun _ hk => hk.elim) ?aF ?aO ?aB ?aS ?aL ?_; (case aP => exact rfl); (case aB => exact (by repeat (first | (with_reducible first | exact HB.out | apply below_alloc | apply pw_below_drewN | apply below_drew1) | exact HB.out))); (case aF => exact (fun _ _ => trivial)); (case aO => exact (by (with_reducible repeat (first | apply Kd.R_alloc | apply Kd.R_drewN | apply Kd.R_drew)); exact HO_9.out)); (case aS => exact (below_size (by repeat (first | (with_reducible first | exact HB.out | apply below_alloc | apply pw_below_drewN | apply below_drew1) | exact HB.out)))); (case aL => have := LMc9.out; omega); intro v312 w10 ho hb hg hat; rw [← Ny311.out] at ho; have n0_ := Aside0.mk (hb); have n1_ := Aside0.mk (ho); clear HB; clear HO_9; have HB := n0_; have HO313 := n1_; clear n0_ n1_; clear ho hb hg hat))
            go_roundg k1
            case measure => have := HK1.out; omega
            case rel => exact ⟨(y311), (wrap64 (x10_1 + 1)), (by first | rfl | (simp; done) | (simp [*]; done)), H', ⟨by have := HK1.out; omega⟩, ⟨by (with_reducible repeat (first | apply Kd.R_alloc | apply Kd.R_drewN | apply Kd.R_drew)); exact HO313.out⟩, ⟨by repeat (first | (with_reducible first | exact HB.out | apply below_alloc | apply pw_below_drewN | apply below_drew1) | exact HB.out)⟩⟩
        · rw [if_neg c9] at H
          exact absurd H (by simp)
      · rw [if_neg c5] at H
        have c5b0 : decide (x10_1 < a1) = false := decide_eq_false c5
        clear c5
        replace H := Option.bind_eq_some_iff.mp H
        obtain ⟨t314, A110, H⟩ := H
        replace H : (some t314) = some r := H
        have A11 := Aside0.mk A110
        clear A110
        as_aux_lemma =>
          obtain rfl := Option.some.inj H
          obtain ⟨Ao12, co12, eo12⟩ := Kd.R_slice HO_9.out
          subst eo12
          go_wp2_with (first | ((with_reducible refine gate_callee (f := 15) rfl ?_); refine goesL_ (some 28) rfl rfl Try.func15 (by kernel_rfl) rfl #[.slice Ao12 x9_1.length co12] rfl (by (try simp only [List.map_toArray, List.map_cons, List.map_nil]); first | done | rfl | (simp only [List.length_drop, List.length_take]; rfl)) ?_; (with_reducible refine (stereopsisref01_Of.calls k1 _ _ x9_1 t314 _ ?side1 ?side2 A11.out).mono ?_); (case side1 => repeat (first | exact (Kd.R_reads' HO_9.out).2.2 | (with_reducible refine Kd.C_alloc ?_ _) | (with_reducible refine Kd.C_drewN ?_ _) | (with_reducible refine Kd.C_drew ?_))); (case side2 => exact (Kd.R_reads' HO_9.out).2.1); rintro e w' ⟨rfl, ⟨nd, rfl⟩⟩; refine ⟨_, rfl, ?_⟩))
          go_ret
          exact ⟨by first | rfl | (simp [errW_none, errW_some] <;> rfl) | (simp [*, errW_none, errW_some] <;> rfl), by repeat (first | (with_reducible first | exact HB.out | apply below_alloc | apply pw_below_drewN | apply below_drew1) | exact HB.out)⟩

/-! ### stereopsisref01_Do: function 24 -/
def stereopsisref01_Do.j0 : Nat → Int → Int → Int → Int → Int → Bool → Option (Int)
  | 0, _, _, _, _, _, _ => none
  | k + 1, x0, x1, x2, x3, x9, x54 => if x54 = true then ((stereopsisref01_each.f k x0 x1 x2 x3).bind fun t320 => (some t320)) else (if x9 = 10 then (if x3 ≥ x1 then (some 0) else ((stereopsisref01_Pow.f k x3).bind fun t321 => ((stereopsisref01_Pow.f k x1).bind fun t322 => (if t322 = 0 then (none) else (some (Int.tmod (wrap64 (x2 * t321)) t322)))))) else (if x9 = 11 then (if x3 ≥ x1 then (some 0) else ((stereopsisref01_Pow.f k x3).bind fun t323 => (if t323 = 0 then (none) else (some (wrap64 (Int.tdiv x2 t323)))))) else (if x9 = 13 then ((stereopsisref01_One.f (x2 == x3)).bind fun t324 => (some t324)) else ((stereopsisref01_One.f (decide (x2 < x3))).bind fun t325 => (some t325)))))
def stereopsisref01_Do.f (k : Nat) (a0 : Int) (a1 : Int) (a2 : Int) (a3 : Int) : Option (Int) := if a0 = 2 then ((stereopsisref01_Pow.f k a1).bind fun t315 => (if t315 = 0 then (none) else (some (Int.tmod (wrap64 (a2 + a3)) t315)))) else (if a0 = 3 then ((stereopsisref01_Pow.f k a1).bind fun t316 => ((stereopsisref01_Pow.f k a1).bind fun t317 => (if t317 = 0 then (none) else (some (Int.tmod (wrap64 ((wrap64 (a2 + t316)) - a3)) t317))))) else (if a0 = 4 then ((stereopsisref01_Pow.f k a1).bind fun t318 => (if t318 = 0 then (none) else (some (Int.tmod (wrap64 (a2 * a3)) t318)))) else (if a0 = 5 then (if a3 = 0 then ((stereopsisref01_Top.f k a1).bind fun t319 => (some t319)) else (some (wrap64 (Int.tdiv a2 a3)))) else (if a0 = 6 then (if a3 = 0 then (some a2) else (some (Int.tmod a2 a3))) else (if a0 = 7 then (stereopsisref01_Do.j0 k a0 a1 a2 a3 a0 (a0 == 7)) else (if a0 = 8 then (stereopsisref01_Do.j0 k a0 a1 a2 a3 a0 (a0 == 8)) else (stereopsisref01_Do.j0 k a0 a1 a2 a3 a0 (a0 == 9))))))))
theorem stereopsisref01_Do.mono_l : ∀ k, (∀ y0 y1 y2 y3 y4 y5, LeO (stereopsisref01_Do.j0 k y0 y1 y2 y3 y4 y5) (stereopsisref01_Do.j0 (k + 1) y0 y1 y2 y3 y4 y5))
  | 0 => fun _ _ _ _ _ _ r h => by simp [stereopsisref01_Do.j0] at h
  | k + 1 => by
    have ih0 := stereopsisref01_Do.mono_l k
    · intro y0 y1 y2 y3 y4 y5
      unfold stereopsisref01_Do.j0
      repeat' first
      | (with_reducible exact ih0 _ _ _ _ _ _)
      | (with_reducible exact stereopsisref01_Pow.mono _ _)
      | (with_reducible exact stereopsisref01_Top.mono _ _)
      | (with_reducible exact stereopsisref01_each.mono _ _ _ _ _)
      | (with_reducible exact LeO.refl _)
      | (with_reducible exact LeO.none _)
      | (with_reducible refine LeO.ite ?_ ?_)
      | (with_reducible refine LeO.bind ?_ (fun _ => ?_))
      | exact ih0 _ _ _ _ _ _
      | exact stereopsisref01_Pow.mono _ _
      | exact stereopsisref01_Top.mono _ _
      | exact stereopsisref01_each.mono _ _ _ _ _
      | exact LeO.none _
      | refine LeO.ite ?_ ?_
      | refine LeO.bind ?_ (fun _ => ?_)
theorem stereopsisref01_Do.mono : ∀ a0 a1 a2 a3 k, LeO (stereopsisref01_Do.f k a0 a1 a2 a3) (stereopsisref01_Do.f (k + 1) a0 a1 a2 a3) := by
  intro a0 a1 a2 a3 k
  have ih0 := stereopsisref01_Do.mono_l k
  unfold stereopsisref01_Do.f
  repeat' first
      | (with_reducible exact ih0 _ _ _ _ _ _)
      | (with_reducible exact stereopsisref01_Pow.mono _ _)
      | (with_reducible exact stereopsisref01_Top.mono _ _)
      | (with_reducible exact stereopsisref01_each.mono _ _ _ _ _)
      | (with_reducible exact LeO.refl _)
      | (with_reducible exact LeO.none _)
      | (with_reducible refine LeO.ite ?_ ?_)
      | (with_reducible refine LeO.bind ?_ (fun _ => ?_))
      | exact ih0 _ _ _ _ _ _
      | exact stereopsisref01_Pow.mono _ _
      | exact stereopsisref01_Top.mono _ _
      | exact stereopsisref01_each.mono _ _ _ _ _
      | exact LeO.none _
      | refine LeO.ite ?_ ?_
      | refine LeO.bind ?_ (fun _ => ?_)
set_option maxHeartbeats 8000000 in
set_option maxRecDepth 100000 in
theorem stereopsisref01_Do.calls (k : Nat) (a0 : Int) (a1 : Int) (a2 : Int) (a3 : Int) (r : Int) (w : World) (h : stereopsisref01_Do.f k a0 a1 a2 a3 = some r) :
    Calls Try.prog 24 #[.int .i64 a0, .int .i64 a1, .int .i64 a2, .int .i64 a3] w fun e w' => e = .returned (.int .i64 r) ∧ Below w.heap.size w w' := by
  have HB := Aside0.mk (Below.refl w.heap.size w)
  have H : (if a0 = 2 then ((stereopsisref01_Pow.f k a1).bind fun t315 => (if t315 = 0 then (none) else (some (Int.tmod (wrap64 (a2 + a3)) t315)))) else (if a0 = 3 then ((stereopsisref01_Pow.f k a1).bind fun t316 => ((stereopsisref01_Pow.f k a1).bind fun t317 => (if t317 = 0 then (none) else (some (Int.tmod (wrap64 ((wrap64 (a2 + t316)) - a3)) t317))))) else (if a0 = 4 then ((stereopsisref01_Pow.f k a1).bind fun t318 => (if t318 = 0 then (none) else (some (Int.tmod (wrap64 (a2 * a3)) t318)))) else (if a0 = 5 then (if a3 = 0 then ((stereopsisref01_Top.f k a1).bind fun t319 => (some t319)) else (some (wrap64 (Int.tdiv a2 a3)))) else (if a0 = 6 then (if a3 = 0 then (some a2) else (some (Int.tmod a2 a3))) else (if a0 = 7 then (stereopsisref01_Do.j0 k a0 a1 a2 a3 a0 (a0 == 7)) else (if a0 = 8 then (stereopsisref01_Do.j0 k a0 a1 a2 a3 a0 (a0 == 8)) else (stereopsisref01_Do.j0 k a0 a1 a2 a3 a0 (a0 == 9))))))))) = some r := h
  clear h
  by_cases c5 : a0 = 2
  · rw [if_pos c5] at H
    have c5b0 : (a0 == 2) = true := beq_iff_eq.mpr c5
    have c5b1 : (a0 != 2) = false := bne_eq_false_iff_eq.mpr c5
    clear c5
    replace H := Option.bind_eq_some_iff.mp H
    obtain ⟨t315, A60, H⟩ := H
    replace H : (if t315 = 0 then (none) else (some (Int.tmod (wrap64 (a2 + a3)) t315))) = some r := H
    have A6 := Aside0.mk A60
    clear A60
    by_cases c7 : t315 = 0
    · rw [if_pos c7] at H
      exact absurd H (by simp)
    · rw [if_neg c7] at H
      have c7b0 : (t315 == 0) = false := beq_eq_false_iff_ne.mpr c7
      have c7b1 : (t315 != 0) = true := bne_iff_ne.mpr c7
      as_aux_lemma =>
        obtain rfl := Option.some.inj H
        go_enter Try.func24, Try.ntmps24
        go_wp2_with (first | ((with_reducible refine gate_callee (f := 19) rfl ?_); refine goesL_ (some 16) rfl rfl Try.func19 (by kernel_rfl) rfl #[.int .i64 a1] rfl (by (try simp only [List.map_toArray, List.map_cons, List.map_nil]); first | done | rfl | (simp only [List.length_drop, List.length_take]; rfl)) ?_; (with_reducible refine (stereopsisref01_Pow.calls k a1 t315 _ A6.out).mono ?_); rintro e w' ⟨rfl, ⟨nd, rfl⟩⟩; refine ⟨_, rfl, ?_⟩))
        go_ret
        exact ⟨by first | rfl | (simp [errW_none, errW_some] <;> rfl) | (simp [*, errW_none, errW_some] <;> rfl), by repeat (first | (with_reducible first | exact HB.out | apply below_alloc | apply pw_below_drewN | apply below_drew1) | exact HB.out)⟩
  · rw [if_neg c5] at H
    have c5b0 : (a0 == 2) = false := beq_eq_false_iff_ne.mpr c5
    have c5b1 : (a0 != 2) = true := bne_iff_ne.mpr c5
    by_cases c8 : a0 = 3
    · rw [if_pos c8] at H
      have c8b0 : (a0 == 3) = true := beq_iff_eq.mpr c8
      have c8b1 : (a0 != 3) = false := bne_eq_false_iff_eq.mpr c8
      clear c8
      replace H := Option.bind_eq_some_iff.mp H
      obtain ⟨t316, A90, H⟩ := H
      replace H : ((stereopsisref01_Pow.f k a1).bind fun t317 => (if t317 = 0 then (none) else (some (Int.tmod (wrap64 ((wrap64 (a2 + t316)) - a3)) t317)))) = some r := H
      have A9 := Aside0.mk A90
      clear A90
      replace H := Option.bind_eq_some_iff.mp H
      obtain ⟨t317, A100, H⟩ := H
      replace H : (if t317 = 0 then (none) else (some (Int.tmod (wrap64 ((wrap64 (a2 + t316)) - a3)) t317))) = some r := H
      have A10 := Aside0.mk A100
      clear A100
      by_cases c11 : t317 = 0
      · rw [if_pos c11] at H
        exact absurd H (by simp)
      · rw [if_neg c11] at H
        have c11b0 : (t317 == 0) = false := beq_eq_false_iff_ne.mpr c11
        have c11b1 : (t317 != 0) = true := bne_iff_ne.mpr c11
        as_aux_lemma =>
          obtain rfl := Option.some.inj H
          go_enter Try.func24, Try.ntmps24
          go_wp2_with (first | ((with_reducible refine gate_callee (f := 19) rfl ?_); refine goesL_ (some 22) rfl rfl Try.func19 (by kernel_rfl) rfl #[.int .i64 a1] rfl (by (try simp only [List.map_toArray, List.map_cons, List.map_nil]); first | done | rfl | (simp only [List.length_drop, List.length_take]; rfl)) ?_; (with_reducible refine (stereopsisref01_Pow.calls k a1 t316 _ A9.out).mono ?_); rintro e w' ⟨rfl, ⟨nd, rfl⟩⟩; refine ⟨_, rfl, ?_⟩) | ((with_reducible refine gate_callee (f := 19) rfl ?_); refine goesL_ (some 27) rfl rfl Try.func19 (by kernel_rfl) rfl #[.int .i64 a1] rfl (by (try simp only [List.map_toArray, List.map_cons, List.map_nil]); first | done | rfl | (simp only [List.length_drop, List.length_take]; rfl)) ?_; (with_reducible refine (stereopsisref01_Pow.calls k a1 t317 _ A10.out).mono ?_); rintro e w' ⟨rfl, ⟨nd, rfl⟩⟩; refine ⟨_, rfl, ?_⟩))
          go_ret
          exact ⟨by first | rfl | (simp [errW_none, errW_some] <;> rfl) | (simp [*, errW_none, errW_some] <;> rfl), by repeat (first | (with_reducible first | exact HB.out | apply below_alloc | apply pw_below_drewN | apply below_drew1) | exact HB.out)⟩
    · rw [if_neg c8] at H
      have c8b0 : (a0 == 3) = false := beq_eq_false_iff_ne.mpr c8
      have c8b1 : (a0 != 3) = true := bne_iff_ne.mpr c8
      by_cases c12 : a0 = 4
      · rw [if_pos c12] at H
        have c12b0 : (a0 == 4) = true := beq_iff_eq.mpr c12
        have c12b1 : (a0 != 4) = false := bne_eq_false_iff_eq.mpr c12
        clear c12
        replace H := Option.bind_eq_some_iff.mp H
        obtain ⟨t318, A130, H⟩ := H
        replace H : (if t318 = 0 then (none) else (some (Int.tmod (wrap64 (a2 * a3)) t318))) = some r := H
        have A13 := Aside0.mk A130
        clear A130
        by_cases c14 : t318 = 0
        · rw [if_pos c14] at H
          exact absurd H (by simp)
        · rw [if_neg c14] at H
          have c14b0 : (t318 == 0) = false := beq_eq_false_iff_ne.mpr c14
          have c14b1 : (t318 != 0) = true := bne_iff_ne.mpr c14
          as_aux_lemma =>
            obtain rfl := Option.some.inj H
            go_enter Try.func24, Try.ntmps24
            go_wp2_with (first | ((with_reducible refine gate_callee (f := 19) rfl ?_); refine goesL_ (some 35) rfl rfl Try.func19 (by kernel_rfl) rfl #[.int .i64 a1] rfl (by (try simp only [List.map_toArray, List.map_cons, List.map_nil]); first | done | rfl | (simp only [List.length_drop, List.length_take]; rfl)) ?_; (with_reducible refine (stereopsisref01_Pow.calls k a1 t318 _ A13.out).mono ?_); rintro e w' ⟨rfl, ⟨nd, rfl⟩⟩; refine ⟨_, rfl, ?_⟩))
            go_ret
            exact ⟨by first | rfl | (simp [errW_none, errW_some] <;> rfl) | (simp [*, errW_none, errW_some] <;> rfl), by repeat (first | (with_reducible first | exact HB.out | apply below_alloc | apply pw_below_drewN | apply below_drew1) | exact HB.out)⟩
      · rw [if_neg c12] at H
        have c12b0 : (a0 == 4) = false := beq_eq_false_iff_ne.mpr c12
        have c12b1 : (a0 != 4) = true := bne_iff_ne.mpr c12
        by_cases c15 : a0 = 5
        · rw [if_pos c15] at H
          have c15b0 : (a0 == 5) = true := beq_iff_eq.mpr c15
          have c15b1 : (a0 != 5) = false := bne_eq_false_iff_eq.mpr c15
          clear c15
          by_cases c16 : a3 = 0
          · rw [if_pos c16] at H
            have c16b0 : (a3 == 0) = true := beq_iff_eq.mpr c16
            have c16b1 : (a3 != 0) = false := bne_eq_false_iff_eq.mpr c16
            clear c16
            replace H := Option.bind_eq_some_iff.mp H
            obtain ⟨t319, A170, H⟩ := H
            replace H : (some t319) = some r := H
            have A17 := Aside0.mk A170
            clear A170
            as_aux_lemma =>
              obtain rfl := Option.some.inj H
              go_enter Try.func24, Try.ntmps24
              go_wp2_with (first | ((with_reducible refine gate_callee (f := 27) rfl ?_); refine goesL_ (some 42) rfl rfl Try.func27 (by kernel_rfl) rfl #[.int .i64 a1] rfl (by (try simp only [List.map_toArray, List.map_cons, List.map_nil]); first | done | rfl | (simp only [List.length_drop, List.length_take]; rfl)) ?_; (with_reducible refine (stereopsisref01_Top.calls k a1 t319 _ A17.out).mono ?_); rintro e w' ⟨rfl, ⟨nd, rfl⟩⟩; refine ⟨_, rfl, ?_⟩))
              go_ret
              exact ⟨by first | rfl | (simp [errW_none, errW_some] <;> rfl) | (simp [*, errW_none, errW_some] <;> rfl), by repeat (first | (with_reducible first | exact HB.out | apply below_alloc | apply pw_below_drewN | apply below_drew1) | exact HB.out)⟩
          · rw [if_neg c16] at H
            have c16b0 : (a3 == 0) = false := beq_eq_false_iff_ne.mpr c16
            have c16b1 : (a3 != 0) = true := bne_iff_ne.mpr c16
            as_aux_lemma =>
              obtain rfl := Option.some.inj H
              go_enter Try.func24, Try.ntmps24
              go_wp2
              go_ret
              exact ⟨by first | rfl | (simp [errW_none, errW_some] <;> rfl) | (simp [*, errW_none, errW_some] <;> rfl), by repeat (first | (with_reducible first | exact HB.out | apply below_alloc | apply pw_below_drewN | apply below_drew1) | exact HB.out)⟩
        · rw [if_neg c15] at H
          have c15b0 : (a0 == 5) = false := beq_eq_false_iff_ne.mpr c15
          have c15b1 : (a0 != 5) = true := bne_iff_ne.mpr c15
          by_cases c18 : a0 = 6
          · rw [if_pos c18] at H
            have c18b0 : (a0 == 6) = true := beq_iff_eq.mpr c18
            have c18b1 : (a0 != 6) = false := bne_eq_false_iff_eq.mpr c18
            clear c18
            by_cases c19 : a3 = 0
            · rw [if_pos c19] at H
              have c19b0 : (a3 == 0) = true := beq_iff_eq.mpr c19
              have c19b1 : (a3 != 0) = false := bne_eq_false_iff_eq.mpr c19
              clear c19
              as_aux_lemma =>
                obtain rfl := Option.some.inj H
                go_enter Try.func24, Try.ntmps24
                go_wp2
                go_ret
                exact ⟨by first | rfl | (simp [errW_none, errW_some] <;> rfl) | (simp [*, errW_none, errW_some] <;> rfl), by repeat (first | (with_reducible first | exact HB.out | apply below_alloc | apply pw_below_drewN | apply below_drew1) | exact HB.out)⟩
            · rw [if_neg c19] at H
              have c19b0 : (a3 == 0) = false := beq_eq_false_iff_ne.mpr c19
              have c19b1 : (a3 != 0) = true := bne_iff_ne.mpr c19
              as_aux_lemma =>
                obtain rfl := Option.some.inj H
                go_enter Try.func24, Try.ntmps24
                go_wp2
                go_ret
                exact ⟨by first | rfl | (simp [errW_none, errW_some] <;> rfl) | (simp [*, errW_none, errW_some] <;> rfl), by repeat (first | (with_reducible first | exact HB.out | apply below_alloc | apply pw_below_drewN | apply below_drew1) | exact HB.out)⟩
          · rw [if_neg c18] at H
            have c18b0 : (a0 == 6) = false := beq_eq_false_iff_ne.mpr c18
            have c18b1 : (a0 != 6) = true := bne_iff_ne.mpr c18
            have HC20 := Aside0.mk H
            clear H
            go_enter Try.func24, Try.ntmps24
            go_upto_if 54 with (fail)
            go_cut [54] (fun v54 wc => ∃ (kq : Nat) (x54_19 : Bool), v54 = .bool x54_19 ∧ Aside0 (stereopsisref01_Do.j0 kq a0 a1 a2 a3 a0 x54_19 = some r) ∧ Aside0 (kq ≤ k) ∧ Aside0 (Below w.heap.size w wc))
            case first =>
              have H := HC20.out
              clear HC20
              by_cases c21 : a0 = 7
              · rw [if_pos c21] at H
                have c21b0 : (a0 == 7) = true := beq_iff_eq.mpr c21
                have c21b1 : (a0 != 7) = false := bne_eq_false_iff_eq.mpr c21
                clear c21
                (first | rw [c21b0] | (simp only [i64_w, i32_w]; rw [c21b0]) | skip)
                as_aux_lemma =>
                  have H' := Aside0.mk H
                  clear H
                  go_wp2
                  go_meet
                  case rel => exact ⟨_, ((a0 == 7)), (by first | rfl | (simp; done) | (simp [*]; done)), H', ⟨by first | omega | exact Nat.le_refl _⟩, ⟨by repeat (first | (with_reducible first | exact HB.out | apply below_alloc | apply pw_below_drewN | apply below_drew1) | exact HB.out)⟩⟩
              · rw [if_neg c21] at H
                have c21b0 : (a0 == 7) = false := beq_eq_false_iff_ne.mpr c21
                have c21b1 : (a0 != 7) = true := bne_iff_ne.mpr c21
                (first | rw [c21b0] | (simp only [i64_w, i32_w]; rw [c21b0]) | skip)
                by_cases c22 : a0 = 8
                · rw [if_pos c22] at H
                  have c22b0 : (a0 == 8) = true := beq_iff_eq.mpr c22
                  have c22b1 : (a0 != 8) = false := bne_eq_false_iff_eq.mpr c22
                  clear c22
                  as_aux_lemma =>
                    have H' := Aside0.mk H
                    clear H
                    go_wp2
                    go_meet
                    case rel => exact ⟨_, ((a0 == 8)), (by first | rfl | (simp; done) | (simp [*]; done)), H', ⟨by first | omega | exact Nat.le_refl _⟩, ⟨by repeat (first | (with_reducible first | exact HB.out | apply below_alloc | apply pw_below_drewN | apply below_drew1) | exact HB.out)⟩⟩
                · rw [if_neg c22] at H
                  have c22b0 : (a0 == 8) = false := beq_eq_false_iff_ne.mpr c22
                  have c22b1 : (a0 != 8) = true := bne_iff_ne.mpr c22
                  as_aux_lemma =>
                    have H' := Aside0.mk H
                    clear H
                    go_wp2
                    go_meet
                    case rel => exact ⟨_, ((a0 == 9)), (by first | rfl | (simp; done) | (simp [*]; done)), H', ⟨by first | omega | exact Nat.le_refl _⟩, ⟨by repeat (first | (with_reducible first | exact HB.out | apply below_alloc | apply pw_below_drewN | apply below_drew1) | exact HB.out)⟩⟩
            case rest =>
              clear HC20
              try clear c1
              try clear c2
              try clear p2
              try clear c5
              try clear c5b0
              try clear c5b1
              try clear p6
              try clear c7
              try clear c7b0
              try clear c7b1
              try clear c8
              try clear c8b0
              try clear c8b1
              try clear c11
              try clear c11b0
              try clear c11b1
              try clear c12
              try clear c12b0
              try clear c12b1
              try clear c14
              try clear c14b0
              try clear c14b1
              try clear c15
              try clear c15b0
              try clear c15b1
              try clear c16
              try clear c16b0
              try clear c16b1
              try clear c18
              try clear c18b0
              try clear c18b1
              try clear c19
              try clear c19b0
              try clear c19b1
              try clear c21
              try clear c21b0
              try clear c21b1
              try clear c22
              try clear c22b0
              try clear c22b1
              obtain ⟨kq, x54_19, rfl, HA, HJ19, HB⟩ := hcut
              cases kq with
              | zero => exact absurd HA.out (by simp [stereopsisref01_Do.j0])
              | succ kj19 =>
                have H := HA.out
                clear HA
                simp only [stereopsisref01_Do.j0] at H
                by_cases c23 : x54_19 = true
                · subst c23
                  have H1 : ((stereopsisref01_each.f kj19 a0 a1 a2 a3).bind fun t320 => (some t320)) = some r := by rw [if_pos rfl] at H; exact H
                  clear H
                  have H := H1
                  clear H1
                  replace H := Option.bind_eq_some_iff.mp H
                  obtain ⟨t320, A240, H⟩ := H
                  replace H : (some t320) = some r := H
                  have A24 := Aside0.mk A240
                  clear A240
                  as_aux_lemma =>
                    obtain rfl := Option.some.inj H
                    go_wp2_with (first | ((with_reducible refine gate_callee (f := 32) rfl ?_); refine goesL_ (some 62) rfl rfl Try.func32 (by kernel_rfl) rfl #[.int .i64 a0, .int .i64 a1, .int .i64 a2, .int .i64 a3] rfl (by (try simp only [List.map_toArray, List.map_cons, List.map_nil]); first | done | rfl | (simp only [List.length_drop, List.length_take]; rfl)) ?_; (with_reducible refine (stereopsisref01_each.calls kj19 a0 a1 a2 a3 t320 _ A24.out).mono ?_); rintro e w25 ⟨rfl, hb⟩; refine ⟨_, rfl, ?_⟩; have n0_ := Aside0.mk (below_step (by repeat (first | (with_reducible first | exact HB.out | apply below_alloc | apply pw_below_drewN | apply below_drew1) | exact HB.out)) hb); clear HB; have HB := n0_; clear n0_; (try clear hb); (try clear hb2); (try clear hk); (try clear hi)))
                    go_ret
                    exact ⟨by first | rfl | (simp [errW_none, errW_some] <;> rfl) | (simp [*, errW_none, errW_some] <;> rfl), by repeat (first | (with_reducible first | exact HB.out | apply below_alloc | apply pw_below_drewN | apply below_drew1) | exact HB.out)⟩
                · replace c23 := Bool.eq_false_iff.mpr c23
                  subst c23
                  have H1 : (if a0 = 10 then (if a3 ≥ a1 then (some 0) else ((stereopsisref01_Pow.f kj19 a3).bind fun t321 => ((stereopsisref01_Pow.f kj19 a1).bind fun t322 => (if t322 = 0 then (none) else (some (Int.tmod (wrap64 (a2 * t321)) t322)))))) else (if a0 = 11 then (if a3 ≥ a1 then (some 0) else ((stereopsisref01_Pow.f kj19 a3).bind fun t323 => (if t323 = 0 then (none) else (some (wrap64 (Int.tdiv a2 t323)))))) else (if a0 = 13 then ((stereopsisref01_One.f (a2 == a3)).bind fun t324 => (some t324)) else ((stereopsisref01_One.f (decide (a2 < a3))).bind fun t325 => (some t325))))) = some r := by rw [if_neg (show ¬ (false = true) by decide)] at H; exact H
                  clear H
                  have H := H1
                  clear H1
                  by_cases c26 : a0 = 10
                  · rw [if_pos c26] at H
                    have c26b0 : (a0 == 10) = true := beq_iff_eq.mpr c26
                    have c26b1 : (a0 != 10) = false := bne_eq_false_iff_eq.mpr c26
                    clear c26
                    by_cases c27 : a3 ≥ a1
                    · rw [if_pos c27] at H
                      have c27b0 : decide (a1 ≤ a3) = true := decide_eq_true c27
                      clear c27
                      as_aux_lemma =>
                        obtain rfl := Option.some.inj H
                        go_wp2
                        go_ret
                        exact ⟨by first | rfl | (simp [errW_none, errW_some] <;> rfl) | (simp [*, errW_none, errW_some] <;> rfl), by repeat (first | (with_reducible first | exact HB.out | apply below_alloc | apply pw_below_drewN | apply below_drew1) | exact HB.out)⟩
                    · rw [if_neg c27] at H
                      have c27b0 : decide (a1 ≤ a3) = false := decide_eq_false c27
                      clear c27
                      replace H := Option.bind_eq_some_iff.mp H
                      obtain ⟨t321, A280, H⟩ := H
                      replace H : ((stereopsisref01_Pow.f kj19 a1).bind fun t322 => (if t322 = 0 then (none) else (some (Int.tmod (wrap64 (a2 * t321)) t322)))) = some r := H
                      have A28 := Aside0.mk A280
                      clear A280
                      replace H := Option.bind_eq_some_iff.mp H
                      obtain ⟨t322, A290, H⟩ := H
                      replace H : (if t322 = 0 then (none) else (some (Int.tmod (wrap64 (a2 * t321)) t322))) = some r := H
                      have A29 := Aside0.mk A290
                      clear A290
                      by_cases c30 : t322 = 0
                      · rw [if_pos c30] at H
                        exact absurd H (by simp)
                      · rw [if_neg c30] at H
                        have c30b0 : (t322 == 0) = false := beq_eq_false_iff_ne.mpr c30
                        have c30b1 : (t322 != 0) = true := bne_iff_ne.mpr c30
                        as_aux_lemma =>
                          obtain rfl := Option.some.inj H
                          go_wp2_with (first | ((with_reducible refine gate_callee (f := 19) rfl ?_); refine goesL_ (some 70) rfl rfl Try.func19 (by kernel_rfl) rfl #[.int .i64 a3] rfl (by (try simp only [List.map_toArray, List.map_cons, List.map_nil]); first | done | rfl | (simp only [List.length_drop, List.length_take]; rfl)) ?_; (with_reducible refine (stereopsisref01_Pow.calls kj19 a3 t321 _ A28.out).mono ?_); rintro e w' ⟨rfl, ⟨nd, rfl⟩⟩; refine ⟨_, rfl, ?_⟩) | ((with_reducible refine gate_callee (f := 19) rfl ?_); refine goesL_ (some 73) rfl rfl Try.func19 (by kernel_rfl) rfl #[.int .i64 a1] rfl (by (try simp only [List.map_toArray, List.map_cons, List.map_nil]); first | done | rfl | (simp only [List.length_drop, List.length_take]; rfl)) ?_; (with_reducible refine (stereopsisref01_Pow.calls kj19 a1 t322 _ A29.out).mono ?_); rintro e w' ⟨rfl, ⟨nd, rfl⟩⟩; refine ⟨_, rfl, ?_⟩))
                          go_ret
                          exact ⟨by first | rfl | (simp [errW_none, errW_some] <;> rfl) | (simp [*, errW_none, errW_some] <;> rfl), by repeat (first | (with_reducible first | exact HB.out | apply below_alloc | apply pw_below_drewN | apply below_drew1) | exact HB.out)⟩
                  · rw [if_neg c26] at H
                    have c26b0 : (a0 == 10) = false := beq_eq_false_iff_ne.mpr c26
                    have c26b1 : (a0 != 10) = true := bne_iff_ne.mpr c26
                    by_cases c31 : a0 = 11
                    · rw [if_pos c31] at H
                      have c31b0 : (a0 == 11) = true := beq_iff_eq.mpr c31
                      have c31b1 : (a0 != 11) = false := bne_eq_false_iff_eq.mpr c31
                      clear c31
                      by_cases c32 : a3 ≥ a1
                      · rw [if_pos c32] at H
                        have c32b0 : decide (a1 ≤ a3) = true := decide_eq_true c32
                        clear c32
                        as_aux_lemma =>
                          obtain rfl := Option.some.inj H
                          go_wp2
                          go_ret
                          exact ⟨by first | rfl | (simp [errW_none, errW_some] <;> rfl) | (simp [*, errW_none, errW_some] <;> rfl), by repeat (first | (with_reducible first | exact HB.out | apply below_alloc | apply pw_below_drewN | apply below_drew1) | exact HB.out)⟩
                      · rw [if_neg c32] at H
                        have c32b0 : decide (a1 ≤ a3) = false := decide_eq_false c32
                        clear c32
                        replace H := Option.bind_eq_some_iff.mp H
                        obtain ⟨t323, A330, H⟩ := H
                        replace H : (if t323 = 0 then (none) else (some (wrap64 (Int.tdiv a2 t323)))) = some r := H
                        have A33 := Aside0.mk A330
                        clear A330
                        by_cases c34 : t323 = 0
                        · rw [if_pos c34] at H
                          exact absurd H (by simp)
                        · rw [if_neg c34] at H
                          have c34b0 : (t323 == 0) = false := beq_eq_false_iff_ne.mpr c34
                          have c34b1 : (t323 != 0) = true := bne_iff_ne.mpr c34
                          as_aux_lemma =>
                            obtain rfl := Option.some.inj H
                            go_wp2_with (first | ((with_reducible refine gate_callee (f := 19) rfl ?_); refine goesL_ (some 82) rfl rfl Try.func19 (by kernel_rfl) rfl #[.int .i64 a3] rfl (by (try simp only [List.map_toArray, List.map_cons, List.map_nil]); first | done | rfl | (simp only [List.length_drop, List.length_take]; rfl)) ?_; (with_reducible refine (stereopsisref01_Pow.calls kj19 a3 t323 _ A33.out).mono ?_); rintro e w' ⟨rfl, ⟨nd, rfl⟩⟩; refine ⟨_, rfl, ?_⟩))
                            go_ret
                            exact ⟨by first | rfl | (simp [errW_none, errW_some] <;> rfl) | (simp [*, errW_none, errW_some] <;> rfl), by repeat (first | (with_reducible first | exact HB.out | apply below_alloc | apply pw_below_drewN | apply below_drew1) | exact HB.out)⟩
                    · rw [if_neg c31] at H
                      have c31b0 : (a0 == 11) = false := beq_eq_false_iff_ne.mpr c31
                      have c31b1 : (a0 != 11) = true := bne_iff_ne.mpr c31
                      by_cases c35 : a0 = 13
                      · rw [if_pos c35] at H
                        have c35b0 : (a0 == 13) = true := beq_iff_eq.mpr c35
                        have c35b1 : (a0 != 13) = false := bne_eq_false_iff_eq.mpr c35
                        clear c35
                        replace H := Option.bind_eq_some_iff.mp H
                        obtain ⟨t324, A360, H⟩ := H
                        replace H : (some t324) = some r := H
                        have A36 := Aside0.mk A360
                        clear A360
                        as_aux_lemma =>
                          obtain rfl := Option.some.inj H
                          go_wp2_with (first | ((with_reducible refine gate_callee (f := 18) rfl ?_); refine goesL_ (some 89) rfl rfl Try.func18 (by kernel_rfl) rfl #[.bool (a2 == a3)] rfl (by (try simp only [List.map_toArray, List.map_cons, List.map_nil]); first | done | rfl | (simp only [List.length_drop, List.length_take]; rfl)) ?_; (with_reducible refine (stereopsisref01_One.calls (a2 == a3) t324 _ A36.out).mono ?_); rintro e w' ⟨rfl, ⟨nd, rfl⟩⟩; refine ⟨_, rfl, ?_⟩))
                          go_ret
                          exact ⟨by first | rfl | (simp [errW_none, errW_some] <;> rfl) | (simp [*, errW_none, errW_some] <;> rfl), by repeat (first | (with_reducible first | exact HB.out | apply below_alloc | apply pw_below_drewN | apply below_drew1) | exact HB.out)⟩
                      · rw [if_neg c35] at H
                        have c35b0 : (a0 == 13) = false := beq_eq_false_iff_ne.mpr c35
                        have c35b1 : (a0 != 13) = true := bne_iff_ne.mpr c35
                        replace H := Option.bind_eq_some_iff.mp H
                        obtain ⟨t325, A370, H⟩ := H
                        replace H : (some t325) = some r := H
                        have A37 := Aside0.mk A370
                        clear A370
                        as_aux_lemma =>
                          obtain rfl := Option.some.inj H
                          go_wp2_with (first | ((with_reducible refine gate_callee (f := 18) rfl ?_); refine goesL_ (some 93) rfl rfl Try.func18 (by kernel_rfl) rfl #[.bool (decide (a2 < a3))] rfl (by (try simp only [List.map_toArray, List.map_cons, List.map_nil]); first | done | rfl | (simp only [List.length_drop, List.length_take]; rfl)) ?_; (with_reducible refine (stereopsisref01_One.calls (decide (a2 < a3)) t325 _ A37.out).mono ?_); rintro e w' ⟨rfl, ⟨nd, rfl⟩⟩; refine ⟨_, rfl, ?_⟩))
                          go_ret
                          exact ⟨by first | rfl | (simp [errW_none, errW_some] <;> rfl) | (simp [*, errW_none, errW_some] <;> rfl), by repeat (first | (with_reducible first | exact HB.out | apply below_alloc | apply pw_below_drewN | apply below_drew1) | exact HB.out)⟩

/-! ### stereopsisref01_Not: function 25 -/
def stereopsisref01_Not.f (k : Nat) (a0 : Int) (a1 : Int) : Option (Int) := (stereopsisref01_Top.f k a0).bind fun t326 => (some (wrap64 (t326 - a1)))
theorem stereopsisref01_Not.mono : ∀ a0 a1 k, LeO (stereopsisref01_Not.f k a0 a1) (stereopsisref01_Not.f (k + 1) a0 a1) := by
  intro a0 a1 k
  unfold stereopsisref01_Not.f
  repeat' first
      | (with_reducible exact stereopsisref01_Top.mono _ _)
      | (with_reducible exact LeO.refl _)
      | (with_reducible exact LeO.none _)
      | (with_reducible refine LeO.ite ?_ ?_)
      | (with_reducible refine LeO.bind ?_ (fun _ => ?_))
      | exact stereopsisref01_Top.mono _ _
      | exact LeO.none _
      | refine LeO.ite ?_ ?_
      | refine LeO.bind ?_ (fun _ => ?_)
set_option maxHeartbeats 8000000 in
set_option maxRecDepth 100000 in
theorem stereopsisref01_Not.calls (k : Nat) (a0 : Int) (a1 : Int) (r : Int) (w : World) (h : stereopsisref01_Not.f k a0 a1 = some r) :
    Calls Try.prog 25 #[.int .i64 a0, .int .i64 a1] w fun e w' => e = .returned (.int .i64 r) ∧ Drawn0 w w' := by
  have H : ((stereopsisref01_Top.f k a0).bind fun t326 => (some (wrap64 (t326 - a1)))) = some r := h
  clear h
  replace H := Option.bind_eq_some_iff.mp H
  obtain ⟨t326, A30, H⟩ := H
  replace H : (some (wrap64 (t326 - a1))) = some r := H
  have A3 := Aside0.mk A30
  clear A30
  as_aux_lemma =>
    obtain rfl := Option.some.inj H
    go_enter Try.func25, Try.ntmps25
    go_wp2_with (first | ((with_reducible refine gate_callee (f := 27) rfl ?_); refine goesL_ (some 6) rfl rfl Try.func27 (by kernel_rfl) rfl #[.int .i64 a0] rfl (by (try simp only [List.map_toArray, List.map_cons, List.map_nil]); first | done | rfl | (simp only [List.length_drop, List.length_take]; rfl)) ?_; (with_reducible refine (stereopsisref01_Top.calls k a0 t326 _ A3.out).mono ?_); rintro e w' ⟨rfl, ⟨nd, rfl⟩⟩; refine ⟨_, rfl, ?_⟩))
    go_ret
    exact ⟨by first | rfl | (simp; done) | (simp [*]; done), by repeat (first | exact Drawn0.refl _ | apply Drawn0.step)⟩

end Go.Proofs.Ytcbglmdnfipgnaa.P
