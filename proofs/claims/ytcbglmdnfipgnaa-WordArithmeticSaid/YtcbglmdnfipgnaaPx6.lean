/- A part of the proof of a law of the seat: Go functions as plain Lean functions, and the proofs that the machine's calls do what these do, under no condition but the row's own. Laid by this session's wip/tools/hprint.py, over the kit's print and this session's own contracts. -/
import Derived.Test.YtcbglmdnfipgnaaPx0
import Derived.Test.YtcbglmdnfipgnaaPx1
import Derived.Test.YtcbglmdnfipgnaaPx3
import Derived.Test.YtcbglmdnfipgnaaPx5
namespace Go.Proofs.Ytcbglmdnfipgnaa.P
open Go.RowKit Go.Proofs.YtcbglmdnfipgnaaW.PrintWords Go.Proofs.YtcbglmdnfipgnaaW.PrintLast Go.Proofs.YtcbglmdnfipgnaaW.PrintMore
attribute [local go_sem] max2_int min2_int max_two min_two max_three min_three max_four min_four   -- for this text's walks alone
set_option linter.unusedVariables false
set_option linter.unusedSimpArgs false

/-! ### stereopsislaw01_WordArithmetic: function 4 -/
mutual
def stereopsislaw01_WordArithmetic.j0 : Nat → Int → Int → Int → Int → Bool → Option (Bool)
  | 0, _, _, _, _, _ => none
  | k + 1, x0, x1, x2, x3, x56 => if x56 = true then ((stereopsislaw01_awake.f k).bind fun t172 => (some t172)) else (stereopsislaw01_WordArithmetic.l0 k x0 x1 x2 x3 0)
def stereopsislaw01_WordArithmetic.l0 : Nat → Int → Int → Int → Int → Int → Option (Bool)
  | 0, _, _, _, _, _ => none
  | k + 1, x0, x1, x2, x3, x9 => if x9 < 2 then ((stereopsislaw01_do.f k (wrap64 (2 + (wrap64 (2 * x9)))) x0 x1 x2).bind fun bt173 => ((stereopsislaw01_do.f k (wrap64 (2 + (wrap64 (2 * x9)))) x0 x2 x1).bind fun bt175 => ((stereopsislaw01_do.f k (wrap64 (2 + (wrap64 (2 * x9)))) x0 x2 x3).bind fun bt177 => ((stereopsislaw01_do.f k (wrap64 (2 + (wrap64 (2 * x9)))) x0 bt173.1 x3).bind fun bt179 => ((stereopsislaw01_do.f k (wrap64 (2 + (wrap64 (2 * x9)))) x0 x1 bt177.1).bind fun bt181 => (if bt173.2 = true then (if bt175.2 = true then (if bt177.2 = true then (if bt179.2 = true then (if bt181.2 = true then (if bt173.1 = bt175.1 then (if bt179.1 = bt181.1 then (stereopsislaw01_WordArithmetic.l0 k x0 x1 x2 x3 (wrap64 (x9 + 1))) else (some false)) else (some false)) else (some false)) else (some false)) else (some false)) else (some false)) else (some false))))))) else ((stereopsislaw01_do.f k 2 x0 x2 x3).bind fun bt183 => ((stereopsislaw01_do.f k 4 x0 x1 bt183.1).bind fun bt185 => ((stereopsislaw01_do.f k 4 x0 x1 x2).bind fun bt187 => ((stereopsislaw01_do.f k 4 x0 x1 x3).bind fun bt189 => ((stereopsislaw01_do.f k 2 x0 bt187.1 bt189.1).bind fun bt191 => ((stereopsislaw01_do.f k 3 x0 bt183.1 x3).bind fun bt193 => (if bt183.2 = true then (if bt185.2 = true then (if bt187.2 = true then (if bt189.2 = true then (if bt191.2 = true then (if bt193.2 = true then (if bt185.1 = bt191.1 then (stereopsislaw01_WordArithmetic.j2 k x0 x1 x2 (bt193.1 != x2)) else (stereopsislaw01_WordArithmetic.j2 k x0 x1 x2 true)) else (stereopsislaw01_WordArithmetic.j2 k x0 x1 x2 true)) else (stereopsislaw01_WordArithmetic.j2 k x0 x1 x2 true)) else (stereopsislaw01_WordArithmetic.j2 k x0 x1 x2 true)) else (stereopsislaw01_WordArithmetic.j2 k x0 x1 x2 true)) else (stereopsislaw01_WordArithmetic.j2 k x0 x1 x2 true)) else (stereopsislaw01_WordArithmetic.j2 k x0 x1 x2 true))))))))
def stereopsislaw01_WordArithmetic.j2 : Nat → Int → Int → Int → Bool → Option (Bool)
  | 0, _, _, _, _ => none
  | k + 1, x0, x1, x2, x206 => if x206 = true then (some false) else ((stereopsislaw01_do.f k 5 x0 x1 x2).bind fun bt195 => ((stereopsislaw01_do.f k 6 x0 x1 x2).bind fun bt197 => ((stereopsislaw01_do.f k 4 x0 bt195.1 x2).bind fun bt199 => ((stereopsislaw01_do.f k 2 x0 bt199.1 bt197.1).bind fun bt201 => (if bt195.2 = true then (if bt197.2 = true then (if bt199.2 = true then (if bt201.2 = true then (if x2 = 0 then ((stereopsislaw01_awake.f k).bind fun t203 => (some t203)) else (if bt201.1 = x1 then (if bt197.1 < x2 then (if (wrap64 ((wrap64 (bt195.1 * x2)) + bt197.1)) = x1 then ((stereopsislaw01_awake.f k).bind fun t204 => (some t204)) else (some false)) else (some false)) else (some false))) else (some false)) else (some false)) else (some false)) else (some false))))))
end
def stereopsislaw01_WordArithmetic.f (k : Nat) (a0 : Int) (a1 : Int) (a2 : Int) (a3 : Int) : Option (Bool) := (stereopsisref01_Word.f k a0 a1).bind fun t169 => (if t169 = true then ((stereopsisref01_Word.f k a0 a2).bind fun t170 => (if t170 = true then ((stereopsisref01_Word.f k a0 a3).bind fun t171 => (stereopsislaw01_WordArithmetic.j0 k a0 a1 a2 a3 (!t171))) else (stereopsislaw01_WordArithmetic.j0 k a0 a1 a2 a3 true))) else (stereopsislaw01_WordArithmetic.j0 k a0 a1 a2 a3 true))
theorem stereopsislaw01_WordArithmetic.mono_l : ∀ k, (∀ y0 y1 y2 y3 y4, LeO (stereopsislaw01_WordArithmetic.j0 k y0 y1 y2 y3 y4) (stereopsislaw01_WordArithmetic.j0 (k + 1) y0 y1 y2 y3 y4)) ∧ (∀ y0 y1 y2 y3 y4, LeO (stereopsislaw01_WordArithmetic.l0 k y0 y1 y2 y3 y4) (stereopsislaw01_WordArithmetic.l0 (k + 1) y0 y1 y2 y3 y4)) ∧ (∀ y0 y1 y2 y3, LeO (stereopsislaw01_WordArithmetic.j2 k y0 y1 y2 y3) (stereopsislaw01_WordArithmetic.j2 (k + 1) y0 y1 y2 y3))
  | 0 => ⟨fun _ _ _ _ _ r h => by simp [stereopsislaw01_WordArithmetic.j0] at h, fun _ _ _ _ _ r h => by simp [stereopsislaw01_WordArithmetic.l0] at h, fun _ _ _ _ r h => by simp [stereopsislaw01_WordArithmetic.j2] at h⟩
  | k + 1 => by
    obtain ⟨ih0, ih1, ih2⟩ := stereopsislaw01_WordArithmetic.mono_l k
    refine ⟨?_, ?_, ?_⟩
    · intro y0 y1 y2 y3 y4
      unfold stereopsislaw01_WordArithmetic.j0
      repeat' first
      | (with_reducible exact ih0 _ _ _ _ _)
      | (with_reducible exact ih1 _ _ _ _ _)
      | (with_reducible exact ih2 _ _ _ _)
      | (with_reducible exact stereopsislaw01_awake.mono _)
      | (with_reducible exact stereopsislaw01_do.mono _ _ _ _ _)
      | (with_reducible exact stereopsisref01_Word.mono _ _ _)
      | (with_reducible exact LeO.refl _)
      | (with_reducible exact LeO.none _)
      | (with_reducible refine LeO.ite ?_ ?_)
      | (with_reducible refine LeO.bind ?_ (fun _ => ?_))
      | exact ih0 _ _ _ _ _
      | exact ih1 _ _ _ _ _
      | exact ih2 _ _ _ _
      | exact stereopsislaw01_awake.mono _
      | exact stereopsislaw01_do.mono _ _ _ _ _
      | exact stereopsisref01_Word.mono _ _ _
      | exact LeO.none _
      | refine LeO.ite ?_ ?_
      | refine LeO.bind ?_ (fun _ => ?_)
    · intro y0 y1 y2 y3 y4
      unfold stereopsislaw01_WordArithmetic.l0
      repeat' first
      | (with_reducible exact ih0 _ _ _ _ _)
      | (with_reducible exact ih1 _ _ _ _ _)
      | (with_reducible exact ih2 _ _ _ _)
      | (with_reducible exact stereopsislaw01_awake.mono _)
      | (with_reducible exact stereopsislaw01_do.mono _ _ _ _ _)
      | (with_reducible exact stereopsisref01_Word.mono _ _ _)
      | (with_reducible exact LeO.refl _)
      | (with_reducible exact LeO.none _)
      | (with_reducible refine LeO.ite ?_ ?_)
      | (with_reducible refine LeO.bind ?_ (fun _ => ?_))
      | exact ih0 _ _ _ _ _
      | exact ih1 _ _ _ _ _
      | exact ih2 _ _ _ _
      | exact stereopsislaw01_awake.mono _
      | exact stereopsislaw01_do.mono _ _ _ _ _
      | exact stereopsisref01_Word.mono _ _ _
      | exact LeO.none _
      | refine LeO.ite ?_ ?_
      | refine LeO.bind ?_ (fun _ => ?_)
    · intro y0 y1 y2 y3
      unfold stereopsislaw01_WordArithmetic.j2
      repeat' first
      | (with_reducible exact ih0 _ _ _ _ _)
      | (with_reducible exact ih1 _ _ _ _ _)
      | (with_reducible exact ih2 _ _ _ _)
      | (with_reducible exact stereopsislaw01_awake.mono _)
      | (with_reducible exact stereopsislaw01_do.mono _ _ _ _ _)
      | (with_reducible exact stereopsisref01_Word.mono _ _ _)
      | (with_reducible exact LeO.refl _)
      | (with_reducible exact LeO.none _)
      | (with_reducible refine LeO.ite ?_ ?_)
      | (with_reducible refine LeO.bind ?_ (fun _ => ?_))
      | exact ih0 _ _ _ _ _
      | exact ih1 _ _ _ _ _
      | exact ih2 _ _ _ _
      | exact stereopsislaw01_awake.mono _
      | exact stereopsislaw01_do.mono _ _ _ _ _
      | exact stereopsisref01_Word.mono _ _ _
      | exact LeO.none _
      | refine LeO.ite ?_ ?_
      | refine LeO.bind ?_ (fun _ => ?_)
theorem stereopsislaw01_WordArithmetic.mono : ∀ a0 a1 a2 a3 k, LeO (stereopsislaw01_WordArithmetic.f k a0 a1 a2 a3) (stereopsislaw01_WordArithmetic.f (k + 1) a0 a1 a2 a3) := by
  intro a0 a1 a2 a3 k
  obtain ⟨ih0, ih1, ih2⟩ := stereopsislaw01_WordArithmetic.mono_l k
  unfold stereopsislaw01_WordArithmetic.f
  repeat' first
      | (with_reducible exact ih0 _ _ _ _ _)
      | (with_reducible exact ih1 _ _ _ _ _)
      | (with_reducible exact ih2 _ _ _ _)
      | (with_reducible exact stereopsislaw01_awake.mono _)
      | (with_reducible exact stereopsislaw01_do.mono _ _ _ _ _)
      | (with_reducible exact stereopsisref01_Word.mono _ _ _)
      | (with_reducible exact LeO.refl _)
      | (with_reducible exact LeO.none _)
      | (with_reducible refine LeO.ite ?_ ?_)
      | (with_reducible refine LeO.bind ?_ (fun _ => ?_))
      | exact ih0 _ _ _ _ _
      | exact ih1 _ _ _ _ _
      | exact ih2 _ _ _ _
      | exact stereopsislaw01_awake.mono _
      | exact stereopsislaw01_do.mono _ _ _ _ _
      | exact stereopsisref01_Word.mono _ _ _
      | exact LeO.none _
      | refine LeO.ite ?_ ?_
      | refine LeO.bind ?_ (fun _ => ?_)
theorem stereopsislaw01_WordArithmetic.j2_not (k_ : Nat) (y0 : Int) (y1 : Int) (y2 : Int) : ¬ (stereopsislaw01_WordArithmetic.j2 k_ y0 y1 y2 true = some true) := by cases k_ <;> simp [stereopsislaw01_WordArithmetic.j2]
set_option maxHeartbeats 8000000 in
set_option maxRecDepth 100000 in
theorem stereopsislaw01_WordArithmetic.calls (k : Nat) (a0 : Int) (a1 : Int) (a2 : Int) (a3 : Int) (w : World) (h : stereopsislaw01_WordArithmetic.f k a0 a1 a2 a3 = some true) :
    Calls Try.prog 4 #[.int .i64 a0, .int .i64 a1, .int .i64 a2, .int .i64 a3] w fun e w' => e = .returned (.bool true) ∧ Below w.heap.size w w' := by
  have HB := Aside0.mk (Below.refl w.heap.size w)
  have H : ((stereopsisref01_Word.f k a0 a1).bind fun t169 => (if t169 = true then ((stereopsisref01_Word.f k a0 a2).bind fun t170 => (if t170 = true then ((stereopsisref01_Word.f k a0 a3).bind fun t171 => (stereopsislaw01_WordArithmetic.j0 k a0 a1 a2 a3 (!t171))) else (stereopsislaw01_WordArithmetic.j0 k a0 a1 a2 a3 true))) else (stereopsislaw01_WordArithmetic.j0 k a0 a1 a2 a3 true))) = some true := h
  clear h
  have HC5 := Aside0.mk H
  clear H
  go_enter Try.func4, Try.ntmps4
  go_upto_region 1 with (fail)
  go_cut [56] (fun v56 wc => ∃ (kq : Nat) (x56_4 : Bool), v56 = .bool x56_4 ∧ Aside0 (stereopsislaw01_WordArithmetic.j0 kq a0 a1 a2 a3 x56_4 = some true) ∧ Aside0 (kq ≤ k) ∧ Aside0 (Below w.heap.size w wc))
  case first =>
    have H := HC5.out
    clear HC5
    replace H := Option.bind_eq_some_iff.mp H
    obtain ⟨t169, A60, H⟩ := H
    replace H : (if t169 = true then ((stereopsisref01_Word.f k a0 a2).bind fun t170 => (if t170 = true then ((stereopsisref01_Word.f k a0 a3).bind fun t171 => (stereopsislaw01_WordArithmetic.j0 k a0 a1 a2 a3 (!t171))) else (stereopsislaw01_WordArithmetic.j0 k a0 a1 a2 a3 true))) else (stereopsislaw01_WordArithmetic.j0 k a0 a1 a2 a3 true)) = some true := H
    have A6 := Aside0.mk A60
    clear A60
    by_cases c7 : t169 = true
    · subst c7
      have H1 : ((stereopsisref01_Word.f k a0 a2).bind fun t170 => (if t170 = true then ((stereopsisref01_Word.f k a0 a3).bind fun t171 => (stereopsislaw01_WordArithmetic.j0 k a0 a1 a2 a3 (!t171))) else (stereopsislaw01_WordArithmetic.j0 k a0 a1 a2 a3 true))) = some true := by rw [if_pos rfl] at H; exact H
      clear H
      have H := H1
      clear H1
      replace H := Option.bind_eq_some_iff.mp H
      obtain ⟨t170, A80, H⟩ := H
      replace H : (if t170 = true then ((stereopsisref01_Word.f k a0 a3).bind fun t171 => (stereopsislaw01_WordArithmetic.j0 k a0 a1 a2 a3 (!t171))) else (stereopsislaw01_WordArithmetic.j0 k a0 a1 a2 a3 true)) = some true := H
      have A8 := Aside0.mk A80
      clear A80
      by_cases c9 : t170 = true
      · subst c9
        have H1 : ((stereopsisref01_Word.f k a0 a3).bind fun t171 => (stereopsislaw01_WordArithmetic.j0 k a0 a1 a2 a3 (!t171))) = some true := by rw [if_pos rfl] at H; exact H
        clear H
        have H := H1
        clear H1
        replace H := Option.bind_eq_some_iff.mp H
        obtain ⟨t171, A100, H⟩ := H
        replace H : (stereopsislaw01_WordArithmetic.j0 k a0 a1 a2 a3 (!t171)) = some true := H
        have A10 := Aside0.mk A100
        clear A100
        as_aux_lemma =>
          have H' := Aside0.mk H
          clear H
          go_wp2_with (first | ((with_reducible refine gate_callee (f := 10) rfl ?_); refine goesL_ (some 43) rfl rfl Try.func10 (by kernel_rfl) rfl #[.int .i64 a0, .int .i64 a1] rfl (by (try simp only [List.map_toArray, List.map_cons, List.map_nil]); first | done | rfl | (simp only [List.length_drop, List.length_take]; rfl)) ?_; (with_reducible refine (stereopsisref01_Word.calls k a0 a1 true _ A6.out).mono ?_); rintro e w' ⟨rfl, ⟨nd, rfl⟩⟩; refine ⟨_, rfl, ?_⟩) | (go_at_call 10; (with_reducible refine (stereopsisref01_Word.calls k a0 a2 true _ A8.out).mono ?_); rintro e w' ⟨rfl, ⟨nd, rfl⟩⟩) | (go_at_call 10; (with_reducible refine (stereopsisref01_Word.calls k a0 a3 t171 _ A10.out).mono ?_); rintro e w' ⟨rfl, ⟨nd, rfl⟩⟩))
          go_meet
          case rel => exact ⟨_, (!t171), (by first | rfl | (simp; done) | (simp [*]; done)), H', ⟨by first | omega | exact Nat.le_refl _⟩, ⟨by repeat (first | (with_reducible first | exact HB.out | apply below_alloc | apply pw_below_drewN | apply below_drew1) | exact HB.out)⟩⟩
      · replace c9 := Bool.eq_false_iff.mpr c9
        subst c9
        have H1 : (stereopsislaw01_WordArithmetic.j0 k a0 a1 a2 a3 true) = some true := by rw [if_neg (show ¬ (false = true) by decide)] at H; exact H
        clear H
        have H := H1
        clear H1
        as_aux_lemma =>
          have H' := Aside0.mk H
          clear H
          go_wp2_with (first | ((with_reducible refine gate_callee (f := 10) rfl ?_); refine goesL_ (some 43) rfl rfl Try.func10 (by kernel_rfl) rfl #[.int .i64 a0, .int .i64 a1] rfl (by (try simp only [List.map_toArray, List.map_cons, List.map_nil]); first | done | rfl | (simp only [List.length_drop, List.length_take]; rfl)) ?_; (with_reducible refine (stereopsisref01_Word.calls k a0 a1 true _ A6.out).mono ?_); rintro e w' ⟨rfl, ⟨nd, rfl⟩⟩; refine ⟨_, rfl, ?_⟩) | (go_at_call 10; (with_reducible refine (stereopsisref01_Word.calls k a0 a2 false _ A8.out).mono ?_); rintro e w' ⟨rfl, ⟨nd, rfl⟩⟩))
          go_meet
          case rel => exact ⟨_, (true), (by first | rfl | (simp; done) | (simp [*]; done)), H', ⟨by first | omega | exact Nat.le_refl _⟩, ⟨by repeat (first | (with_reducible first | exact HB.out | apply below_alloc | apply pw_below_drewN | apply below_drew1) | exact HB.out)⟩⟩
    · replace c7 := Bool.eq_false_iff.mpr c7
      subst c7
      have H1 : (stereopsislaw01_WordArithmetic.j0 k a0 a1 a2 a3 true) = some true := by rw [if_neg (show ¬ (false = true) by decide)] at H; exact H
      clear H
      have H := H1
      clear H1
      as_aux_lemma =>
        have H' := Aside0.mk H
        clear H
        go_wp2_with (first | ((with_reducible refine gate_callee (f := 10) rfl ?_); refine goesL_ (some 43) rfl rfl Try.func10 (by kernel_rfl) rfl #[.int .i64 a0, .int .i64 a1] rfl (by (try simp only [List.map_toArray, List.map_cons, List.map_nil]); first | done | rfl | (simp only [List.length_drop, List.length_take]; rfl)) ?_; (with_reducible refine (stereopsisref01_Word.calls k a0 a1 false _ A6.out).mono ?_); rintro e w' ⟨rfl, ⟨nd, rfl⟩⟩; refine ⟨_, rfl, ?_⟩))
        go_meet
        case rel => exact ⟨_, (true), (by first | rfl | (simp; done) | (simp [*]; done)), H', ⟨by first | omega | exact Nat.le_refl _⟩, ⟨by repeat (first | (with_reducible first | exact HB.out | apply below_alloc | apply pw_below_drewN | apply below_drew1) | exact HB.out)⟩⟩
  case rest =>
    clear HC5
    try clear c1
    try clear p2
    try clear c4
    try clear c7
    try clear c9
    try clear c10
    obtain ⟨kq, x56_4, rfl, HA, HJ4, HB⟩ := hcut
    cases kq with
    | zero => exact absurd HA.out (by simp [stereopsislaw01_WordArithmetic.j0])
    | succ kj4 =>
      have H := HA.out
      clear HA
      simp only [stereopsislaw01_WordArithmetic.j0] at H
      by_cases c11 : x56_4 = true
      · subst c11
        have H1 : ((stereopsislaw01_awake.f kj4).bind fun t172 => (some t172)) = some true := by rw [if_pos rfl] at H; exact H
        clear H
        have H := H1
        clear H1
        replace H := Option.bind_eq_some_iff.mp H
        obtain ⟨t172, A120, H⟩ := H
        replace H : (some t172) = some true := H
        have A12 := Aside0.mk A120
        clear A120
        as_aux_lemma =>
          have HX_ := Aside0.mk (Option.some.inj H)
          clear H
          go_wp2_with (first | ((with_reducible refine gate_callee (f := 14) rfl ?_); refine goesL_ (some 57) rfl rfl Try.func14 (by kernel_rfl) rfl #[] rfl (by (try simp only [List.map_toArray, List.map_cons, List.map_nil]); first | done | rfl | (simp only [List.length_drop, List.length_take]; rfl)) ?_; (with_reducible refine (stereopsislaw01_awake.calls kj4  t172 _ A12.out).mono ?_); rintro e w13 ⟨rfl, hb⟩; refine ⟨_, rfl, ?_⟩; have n0_ := Aside0.mk (below_step (by repeat (first | (with_reducible first | exact HB.out | apply below_alloc | apply pw_below_drewN | apply below_drew1) | exact HB.out)) hb); clear HB; have HB := n0_; clear n0_; (try clear hb); (try clear hb2); (try clear hk); (try clear hi)))
          go_ret
          exact ⟨by first | (rw [HX_.out]; done) | (simp [HX_.out]; done) | rfl | (simp [errW_none, errW_some] <;> rfl) | (simp [*, errW_none, errW_some] <;> rfl), by repeat (first | (with_reducible first | exact HB.out | apply below_alloc | apply pw_below_drewN | apply below_drew1) | exact HB.out)⟩
      · replace c11 := Bool.eq_false_iff.mpr c11
        subst c11
        have H1 : (stereopsislaw01_WordArithmetic.l0 kj4 a0 a1 a2 a3 0) = some true := by rw [if_neg (show ¬ (false = true) by decide)] at H; exact H
        clear H
        have H := H1
        clear H1
        have H' := Aside0.mk H
        clear H
        go_wp2
        go_loopg [9] kj4 (fun kq v9 w' => ∃ (x9_2 : Int), v9 = .int .i64 x9_2 ∧ Aside0 (stereopsislaw01_WordArithmetic.l0 kq a0 a1 a2 a3 x9_2 = some true) ∧ Aside0 (kq ≤ kj4) ∧ Aside0 (Below w.heap.size w w'))
        case atStart => exact ⟨(0), (by first | rfl | (simp; done) | (simp [*]; done)), H', ⟨Nat.le_refl _⟩, ⟨by repeat (first | (with_reducible first | exact HB.out | apply below_alloc | apply pw_below_drewN | apply below_drew1) | exact HB.out)⟩⟩
        case round =>
          clear H'
          try clear c1
          try clear p2
          try clear c4
          try clear c7
          try clear c9
          try clear c10
          try clear c11
          try clear p2
          obtain ⟨x9_2, rfl, HA, HK2, HB⟩ := hrel
          cases gk with
          | zero => exact absurd HA.out (by simp [stereopsislaw01_WordArithmetic.l0])
          | succ k2 =>
            have H := HA.out
            clear HA
            simp only [stereopsislaw01_WordArithmetic.l0] at H
            by_cases c14 : x9_2 < 2
            · rw [if_pos c14] at H
              have c14b0 : decide (x9_2 < 2) = true := decide_eq_true c14
              clear c14
              replace H := Option.bind_eq_some_iff.mp H
              obtain ⟨⟨t173, t174⟩, A150, H⟩ := H
              replace H : ((stereopsislaw01_do.f k2 (wrap64 (2 + (wrap64 (2 * x9_2)))) a0 a2 a1).bind fun bt175 => ((stereopsislaw01_do.f k2 (wrap64 (2 + (wrap64 (2 * x9_2)))) a0 a2 a3).bind fun bt177 => ((stereopsislaw01_do.f k2 (wrap64 (2 + (wrap64 (2 * x9_2)))) a0 t173 a3).bind fun bt179 => ((stereopsislaw01_do.f k2 (wrap64 (2 + (wrap64 (2 * x9_2)))) a0 a1 bt177.1).bind fun bt181 => (if t174 = true then (if bt175.2 = true then (if bt177.2 = true then (if bt179.2 = true then (if bt181.2 = true then (if t173 = bt175.1 then (if bt179.1 = bt181.1 then (stereopsislaw01_WordArithmetic.l0 k2 a0 a1 a2 a3 (wrap64 (x9_2 + 1))) else (some false)) else (some false)) else (some false)) else (some false)) else (some false)) else (some false)) else (some false)))))) = some true := H
              have A15 := Aside0.mk A150
              clear A150
              replace H := Option.bind_eq_some_iff.mp H
              obtain ⟨⟨t175, t176⟩, A160, H⟩ := H
              replace H : ((stereopsislaw01_do.f k2 (wrap64 (2 + (wrap64 (2 * x9_2)))) a0 a2 a3).bind fun bt177 => ((stereopsislaw01_do.f k2 (wrap64 (2 + (wrap64 (2 * x9_2)))) a0 t173 a3).bind fun bt179 => ((stereopsislaw01_do.f k2 (wrap64 (2 + (wrap64 (2 * x9_2)))) a0 a1 bt177.1).bind fun bt181 => (if t174 = true then (if t176 = true then (if bt177.2 = true then (if bt179.2 = true then (if bt181.2 = true then (if t173 = t175 then (if bt179.1 = bt181.1 then (stereopsislaw01_WordArithmetic.l0 k2 a0 a1 a2 a3 (wrap64 (x9_2 + 1))) else (some false)) else (some false)) else (some false)) else (some false)) else (some false)) else (some false)) else (some false))))) = some true := H
              have A16 := Aside0.mk A160
              clear A160
              replace H := Option.bind_eq_some_iff.mp H
              obtain ⟨⟨t177, t178⟩, A170, H⟩ := H
              replace H : ((stereopsislaw01_do.f k2 (wrap64 (2 + (wrap64 (2 * x9_2)))) a0 t173 a3).bind fun bt179 => ((stereopsislaw01_do.f k2 (wrap64 (2 + (wrap64 (2 * x9_2)))) a0 a1 t177).bind fun bt181 => (if t174 = true then (if t176 = true then (if t178 = true then (if bt179.2 = true then (if bt181.2 = true then (if t173 = t175 then (if bt179.1 = bt181.1 then (stereopsislaw01_WordArithmetic.l0 k2 a0 a1 a2 a3 (wrap64 (x9_2 + 1))) else (some false)) else (some false)) else (some false)) else (some false)) else (some false)) else (some false)) else (some false)))) = some true := H
              have A17 := Aside0.mk A170
              clear A170
              replace H := Option.bind_eq_some_iff.mp H
              obtain ⟨⟨t179, t180⟩, A180, H⟩ := H
              replace H : ((stereopsislaw01_do.f k2 (wrap64 (2 + (wrap64 (2 * x9_2)))) a0 a1 t177).bind fun bt181 => (if t174 = true then (if t176 = true then (if t178 = true then (if t180 = true then (if bt181.2 = true then (if t173 = t175 then (if t179 = bt181.1 then (stereopsislaw01_WordArithmetic.l0 k2 a0 a1 a2 a3 (wrap64 (x9_2 + 1))) else (some false)) else (some false)) else (some false)) else (some false)) else (some false)) else (some false)) else (some false))) = some true := H
              have A18 := Aside0.mk A180
              clear A180
              replace H := Option.bind_eq_some_iff.mp H
              obtain ⟨⟨t181, t182⟩, A190, H⟩ := H
              replace H : (if t174 = true then (if t176 = true then (if t178 = true then (if t180 = true then (if t182 = true then (if t173 = t175 then (if t179 = t181 then (stereopsislaw01_WordArithmetic.l0 k2 a0 a1 a2 a3 (wrap64 (x9_2 + 1))) else (some false)) else (some false)) else (some false)) else (some false)) else (some false)) else (some false)) else (some false)) = some true := H
              have A19 := Aside0.mk A190
              clear A190
              by_cases c20 : t174 = true
              · subst c20
                have H1 : (if t176 = true then (if t178 = true then (if t180 = true then (if t182 = true then (if t173 = t175 then (if t179 = t181 then (stereopsislaw01_WordArithmetic.l0 k2 a0 a1 a2 a3 (wrap64 (x9_2 + 1))) else (some false)) else (some false)) else (some false)) else (some false)) else (some false)) else (some false)) = some true := by rw [if_pos rfl] at H; exact H
                clear H
                have H := H1
                clear H1
                by_cases c21 : t176 = true
                · subst c21
                  have H1 : (if t178 = true then (if t180 = true then (if t182 = true then (if t173 = t175 then (if t179 = t181 then (stereopsislaw01_WordArithmetic.l0 k2 a0 a1 a2 a3 (wrap64 (x9_2 + 1))) else (some false)) else (some false)) else (some false)) else (some false)) else (some false)) = some true := by rw [if_pos rfl] at H; exact H
                  clear H
                  have H := H1
                  clear H1
                  by_cases c22 : t178 = true
                  · subst c22
                    have H1 : (if t180 = true then (if t182 = true then (if t173 = t175 then (if t179 = t181 then (stereopsislaw01_WordArithmetic.l0 k2 a0 a1 a2 a3 (wrap64 (x9_2 + 1))) else (some false)) else (some false)) else (some false)) else (some false)) = some true := by rw [if_pos rfl] at H; exact H
                    clear H
                    have H := H1
                    clear H1
                    by_cases c23 : t180 = true
                    · subst c23
                      have H1 : (if t182 = true then (if t173 = t175 then (if t179 = t181 then (stereopsislaw01_WordArithmetic.l0 k2 a0 a1 a2 a3 (wrap64 (x9_2 + 1))) else (some false)) else (some false)) else (some false)) = some true := by rw [if_pos rfl] at H; exact H
                      clear H
                      have H := H1
                      clear H1
                      by_cases c24 : t182 = true
                      · subst c24
                        have H1 : (if t173 = t175 then (if t179 = t181 then (stereopsislaw01_WordArithmetic.l0 k2 a0 a1 a2 a3 (wrap64 (x9_2 + 1))) else (some false)) else (some false)) = some true := by rw [if_pos rfl] at H; exact H
                        clear H
                        have H := H1
                        clear H1
                        by_cases c25 : t173 = t175
                        · rw [if_pos c25] at H
                          have c25b0 : (t173 == t175) = true := beq_iff_eq.mpr c25
                          have c25b1 : (t173 != t175) = false := bne_eq_false_iff_eq.mpr c25
                          clear c25
                          by_cases c26 : t179 = t181
                          · rw [if_pos c26] at H
                            have c26b0 : (t179 == t181) = true := beq_iff_eq.mpr c26
                            have c26b1 : (t179 != t181) = false := bne_eq_false_iff_eq.mpr c26
                            clear c26
                            as_aux_lemma =>
                              have H' := Aside0.mk H
                              clear H
                              go_wp2_with (first | ((with_reducible refine gate_callee (f := 16) rfl ?_); refine goesL_ (some 70) rfl rfl Try.func16 (by kernel_rfl) rfl #[.int .i64 (wrap64 (2 + (wrap64 (2 * x9_2)))), .int .i64 a0, .int .i64 a1, .int .i64 a2] rfl (by (try simp only [List.map_toArray, List.map_cons, List.map_nil]); first | done | rfl | (simp only [List.length_drop, List.length_take]; rfl)) ?_; (with_reducible refine (stereopsislaw01_do.calls k2 (wrap64 (2 + (wrap64 (2 * x9_2)))) a0 a1 a2 t173 true _ A15.out).mono ?_); rintro e w27 ⟨rfl, hb⟩; refine ⟨_, rfl, ?_⟩; have n0_ := Aside0.mk (below_step (by repeat (first | (with_reducible first | exact HB.out | apply below_alloc | apply pw_below_drewN | apply below_drew1) | exact HB.out)) hb); clear HB; have HB := n0_; clear n0_; (try clear hb); (try clear hb2); (try clear hk); (try clear hi)) | ((with_reducible refine gate_callee (f := 16) rfl ?_); refine goesL_ (some 78) rfl rfl Try.func16 (by kernel_rfl) rfl #[.int .i64 (wrap64 (2 + (wrap64 (2 * x9_2)))), .int .i64 a0, .int .i64 a2, .int .i64 a1] rfl (by (try simp only [List.map_toArray, List.map_cons, List.map_nil]); first | done | rfl | (simp only [List.length_drop, List.length_take]; rfl)) ?_; (with_reducible refine (stereopsislaw01_do.calls k2 (wrap64 (2 + (wrap64 (2 * x9_2)))) a0 a2 a1 t175 true _ A16.out).mono ?_); rintro e w28 ⟨rfl, hb⟩; refine ⟨_, rfl, ?_⟩; have n0_ := Aside0.mk (below_step (by repeat (first | (with_reducible first | exact HB.out | apply below_alloc | apply pw_below_drewN | apply below_drew1) | exact HB.out)) hb); clear HB; have HB := n0_; clear n0_; (try clear hb); (try clear hb2); (try clear hk); (try clear hi)) | ((with_reducible refine gate_callee (f := 16) rfl ?_); refine goesL_ (some 86) rfl rfl Try.func16 (by kernel_rfl) rfl #[.int .i64 (wrap64 (2 + (wrap64 (2 * x9_2)))), .int .i64 a0, .int .i64 a2, .int .i64 a3] rfl (by (try simp only [List.map_toArray, List.map_cons, List.map_nil]); first | done | rfl | (simp only [List.length_drop, List.length_take]; rfl)) ?_; (with_reducible refine (stereopsislaw01_do.calls k2 (wrap64 (2 + (wrap64 (2 * x9_2)))) a0 a2 a3 t177 true _ A17.out).mono ?_); rintro e w29 ⟨rfl, hb⟩; refine ⟨_, rfl, ?_⟩; have n0_ := Aside0.mk (below_step (by repeat (first | (with_reducible first | exact HB.out | apply below_alloc | apply pw_below_drewN | apply below_drew1) | exact HB.out)) hb); clear HB; have HB := n0_; clear n0_; (try clear hb); (try clear hb2); (try clear hk); (try clear hi)) | ((with_reducible refine gate_callee (f := 16) rfl ?_); refine goesL_ (some 94) rfl rfl Try.func16 (by kernel_rfl) rfl #[.int .i64 (wrap64 (2 + (wrap64 (2 * x9_2)))), .int .i64 a0, .int .i64 t173, .int .i64 a3] rfl (by (try simp only [List.map_toArray, List.map_cons, List.map_nil]); first | done | rfl | (simp only [List.length_drop, List.length_take]; rfl)) ?_; (with_reducible refine (stereopsislaw01_do.calls k2 (wrap64 (2 + (wrap64 (2 * x9_2)))) a0 t173 a3 t179 true _ A18.out).mono ?_); rintro e w30 ⟨rfl, hb⟩; refine ⟨_, rfl, ?_⟩; have n0_ := Aside0.mk (below_step (by repeat (first | (with_reducible first | exact HB.out | apply below_alloc | apply pw_below_drewN | apply below_drew1) | exact HB.out)) hb); clear HB; have HB := n0_; clear n0_; (try clear hb); (try clear hb2); (try clear hk); (try clear hi)) | ((with_reducible refine gate_callee (f := 16) rfl ?_); refine goesL_ (some 102) rfl rfl Try.func16 (by kernel_rfl) rfl #[.int .i64 (wrap64 (2 + (wrap64 (2 * x9_2)))), .int .i64 a0, .int .i64 a1, .int .i64 t177] rfl (by (try simp only [List.map_toArray, List.map_cons, List.map_nil]); first | done | rfl | (simp only [List.length_drop, List.length_take]; rfl)) ?_; (with_reducible refine (stereopsislaw01_do.calls k2 (wrap64 (2 + (wrap64 (2 * x9_2)))) a0 a1 t177 t181 true _ A19.out).mono ?_); rintro e w31 ⟨rfl, hb⟩; refine ⟨_, rfl, ?_⟩; have n0_ := Aside0.mk (below_step (by repeat (first | (with_reducible first | exact HB.out | apply below_alloc | apply pw_below_drewN | apply below_drew1) | exact HB.out)) hb); clear HB; have HB := n0_; clear n0_; (try clear hb); (try clear hb2); (try clear hk); (try clear hi)))
                              go_roundg k2
                              case measure => have := HJ4.out; have := HK2.out; omega
                              case rel => exact ⟨(wrap64 (x9_2 + 1)), (by first | rfl | (simp; done) | (simp [*]; done)), H', ⟨by have := HJ4.out; have := HK2.out; omega⟩, ⟨by repeat (first | (with_reducible first | exact HB.out | apply below_alloc | apply pw_below_drewN | apply below_drew1) | exact HB.out)⟩⟩
                          · rw [if_neg c26] at H
                            have c26b0 : (t179 == t181) = false := beq_eq_false_iff_ne.mpr c26
                            have c26b1 : (t179 != t181) = true := bne_iff_ne.mpr c26
                            as_aux_lemma =>
                              exact absurd H (by simp)
                        · rw [if_neg c25] at H
                          have c25b0 : (t173 == t175) = false := beq_eq_false_iff_ne.mpr c25
                          have c25b1 : (t173 != t175) = true := bne_iff_ne.mpr c25
                          as_aux_lemma =>
                            exact absurd H (by simp)
                      · replace c24 := Bool.eq_false_iff.mpr c24
                        subst c24
                        have H1 : (some false) = some true := by rw [if_neg (show ¬ (false = true) by decide)] at H; exact H
                        clear H
                        have H := H1
                        clear H1
                        as_aux_lemma =>
                          exact absurd H (by simp)
                    · replace c23 := Bool.eq_false_iff.mpr c23
                      subst c23
                      have H1 : (some false) = some true := by rw [if_neg (show ¬ (false = true) by decide)] at H; exact H
                      clear H
                      have H := H1
                      clear H1
                      as_aux_lemma =>
                        exact absurd H (by simp)
                  · replace c22 := Bool.eq_false_iff.mpr c22
                    subst c22
                    have H1 : (some false) = some true := by rw [if_neg (show ¬ (false = true) by decide)] at H; exact H
                    clear H
                    have H := H1
                    clear H1
                    as_aux_lemma =>
                      exact absurd H (by simp)
                · replace c21 := Bool.eq_false_iff.mpr c21
                  subst c21
                  have H1 : (some false) = some true := by rw [if_neg (show ¬ (false = true) by decide)] at H; exact H
                  clear H
                  have H := H1
                  clear H1
                  as_aux_lemma =>
                    exact absurd H (by simp)
              · replace c20 := Bool.eq_false_iff.mpr c20
                subst c20
                have H1 : (some false) = some true := by rw [if_neg (show ¬ (false = true) by decide)] at H; exact H
                clear H
                have H := H1
                clear H1
                as_aux_lemma =>
                  exact absurd H (by simp)
            · rw [if_neg c14] at H
              have c14b0 : decide (x9_2 < 2) = false := decide_eq_false c14
              clear c14
              replace H := Option.bind_eq_some_iff.mp H
              obtain ⟨⟨t183, t184⟩, A320, H⟩ := H
              replace H : ((stereopsislaw01_do.f k2 4 a0 a1 t183).bind fun bt185 => ((stereopsislaw01_do.f k2 4 a0 a1 a2).bind fun bt187 => ((stereopsislaw01_do.f k2 4 a0 a1 a3).bind fun bt189 => ((stereopsislaw01_do.f k2 2 a0 bt187.1 bt189.1).bind fun bt191 => ((stereopsislaw01_do.f k2 3 a0 t183 a3).bind fun bt193 => (if t184 = true then (if bt185.2 = true then (if bt187.2 = true then (if bt189.2 = true then (if bt191.2 = true then (if bt193.2 = true then (if bt185.1 = bt191.1 then (stereopsislaw01_WordArithmetic.j2 k2 a0 a1 a2 (bt193.1 != a2)) else (stereopsislaw01_WordArithmetic.j2 k2 a0 a1 a2 true)) else (stereopsislaw01_WordArithmetic.j2 k2 a0 a1 a2 true)) else (stereopsislaw01_WordArithmetic.j2 k2 a0 a1 a2 true)) else (stereopsislaw01_WordArithmetic.j2 k2 a0 a1 a2 true)) else (stereopsislaw01_WordArithmetic.j2 k2 a0 a1 a2 true)) else (stereopsislaw01_WordArithmetic.j2 k2 a0 a1 a2 true)) else (stereopsislaw01_WordArithmetic.j2 k2 a0 a1 a2 true))))))) = some true := H
              have A32 := Aside0.mk A320
              clear A320
              replace H := Option.bind_eq_some_iff.mp H
              obtain ⟨⟨t185, t186⟩, A330, H⟩ := H
              replace H : ((stereopsislaw01_do.f k2 4 a0 a1 a2).bind fun bt187 => ((stereopsislaw01_do.f k2 4 a0 a1 a3).bind fun bt189 => ((stereopsislaw01_do.f k2 2 a0 bt187.1 bt189.1).bind fun bt191 => ((stereopsislaw01_do.f k2 3 a0 t183 a3).bind fun bt193 => (if t184 = true then (if t186 = true then (if bt187.2 = true then (if bt189.2 = true then (if bt191.2 = true then (if bt193.2 = true then (if t185 = bt191.1 then (stereopsislaw01_WordArithmetic.j2 k2 a0 a1 a2 (bt193.1 != a2)) else (stereopsislaw01_WordArithmetic.j2 k2 a0 a1 a2 true)) else (stereopsislaw01_WordArithmetic.j2 k2 a0 a1 a2 true)) else (stereopsislaw01_WordArithmetic.j2 k2 a0 a1 a2 true)) else (stereopsislaw01_WordArithmetic.j2 k2 a0 a1 a2 true)) else (stereopsislaw01_WordArithmetic.j2 k2 a0 a1 a2 true)) else (stereopsislaw01_WordArithmetic.j2 k2 a0 a1 a2 true)) else (stereopsislaw01_WordArithmetic.j2 k2 a0 a1 a2 true)))))) = some true := H
              have A33 := Aside0.mk A330
              clear A330
              replace H := Option.bind_eq_some_iff.mp H
              obtain ⟨⟨t187, t188⟩, A340, H⟩ := H
              replace H : ((stereopsislaw01_do.f k2 4 a0 a1 a3).bind fun bt189 => ((stereopsislaw01_do.f k2 2 a0 t187 bt189.1).bind fun bt191 => ((stereopsislaw01_do.f k2 3 a0 t183 a3).bind fun bt193 => (if t184 = true then (if t186 = true then (if t188 = true then (if bt189.2 = true then (if bt191.2 = true then (if bt193.2 = true then (if t185 = bt191.1 then (stereopsislaw01_WordArithmetic.j2 k2 a0 a1 a2 (bt193.1 != a2)) else (stereopsislaw01_WordArithmetic.j2 k2 a0 a1 a2 true)) else (stereopsislaw01_WordArithmetic.j2 k2 a0 a1 a2 true)) else (stereopsislaw01_WordArithmetic.j2 k2 a0 a1 a2 true)) else (stereopsislaw01_WordArithmetic.j2 k2 a0 a1 a2 true)) else (stereopsislaw01_WordArithmetic.j2 k2 a0 a1 a2 true)) else (stereopsislaw01_WordArithmetic.j2 k2 a0 a1 a2 true)) else (stereopsislaw01_WordArithmetic.j2 k2 a0 a1 a2 true))))) = some true := H
              have A34 := Aside0.mk A340
              clear A340
              replace H := Option.bind_eq_some_iff.mp H
              obtain ⟨⟨t189, t190⟩, A350, H⟩ := H
              replace H : ((stereopsislaw01_do.f k2 2 a0 t187 t189).bind fun bt191 => ((stereopsislaw01_do.f k2 3 a0 t183 a3).bind fun bt193 => (if t184 = true then (if t186 = true then (if t188 = true then (if t190 = true then (if bt191.2 = true then (if bt193.2 = true then (if t185 = bt191.1 then (stereopsislaw01_WordArithmetic.j2 k2 a0 a1 a2 (bt193.1 != a2)) else (stereopsislaw01_WordArithmetic.j2 k2 a0 a1 a2 true)) else (stereopsislaw01_WordArithmetic.j2 k2 a0 a1 a2 true)) else (stereopsislaw01_WordArithmetic.j2 k2 a0 a1 a2 true)) else (stereopsislaw01_WordArithmetic.j2 k2 a0 a1 a2 true)) else (stereopsislaw01_WordArithmetic.j2 k2 a0 a1 a2 true)) else (stereopsislaw01_WordArithmetic.j2 k2 a0 a1 a2 true)) else (stereopsislaw01_WordArithmetic.j2 k2 a0 a1 a2 true)))) = some true := H
              have A35 := Aside0.mk A350
              clear A350
              replace H := Option.bind_eq_some_iff.mp H
              obtain ⟨⟨t191, t192⟩, A360, H⟩ := H
              replace H : ((stereopsislaw01_do.f k2 3 a0 t183 a3).bind fun bt193 => (if t184 = true then (if t186 = true then (if t188 = true then (if t190 = true then (if t192 = true then (if bt193.2 = true then (if t185 = t191 then (stereopsislaw01_WordArithmetic.j2 k2 a0 a1 a2 (bt193.1 != a2)) else (stereopsislaw01_WordArithmetic.j2 k2 a0 a1 a2 true)) else (stereopsislaw01_WordArithmetic.j2 k2 a0 a1 a2 true)) else (stereopsislaw01_WordArithmetic.j2 k2 a0 a1 a2 true)) else (stereopsislaw01_WordArithmetic.j2 k2 a0 a1 a2 true)) else (stereopsislaw01_WordArithmetic.j2 k2 a0 a1 a2 true)) else (stereopsislaw01_WordArithmetic.j2 k2 a0 a1 a2 true)) else (stereopsislaw01_WordArithmetic.j2 k2 a0 a1 a2 true))) = some true := H
              have A36 := Aside0.mk A360
              clear A360
              replace H := Option.bind_eq_some_iff.mp H
              obtain ⟨⟨t193, t194⟩, A370, H⟩ := H
              replace H : (if t184 = true then (if t186 = true then (if t188 = true then (if t190 = true then (if t192 = true then (if t194 = true then (if t185 = t191 then (stereopsislaw01_WordArithmetic.j2 k2 a0 a1 a2 (t193 != a2)) else (stereopsislaw01_WordArithmetic.j2 k2 a0 a1 a2 true)) else (stereopsislaw01_WordArithmetic.j2 k2 a0 a1 a2 true)) else (stereopsislaw01_WordArithmetic.j2 k2 a0 a1 a2 true)) else (stereopsislaw01_WordArithmetic.j2 k2 a0 a1 a2 true)) else (stereopsislaw01_WordArithmetic.j2 k2 a0 a1 a2 true)) else (stereopsislaw01_WordArithmetic.j2 k2 a0 a1 a2 true)) else (stereopsislaw01_WordArithmetic.j2 k2 a0 a1 a2 true)) = some true := H
              have A37 := Aside0.mk A370
              clear A370
              have HC38 := Aside0.mk H
              clear H
              go_upto_region 20 with (first | ((with_reducible refine gate_callee (f := 16) rfl ?_); refine goesL_ (some 137) rfl rfl Try.func16 (by kernel_rfl) rfl #[.int .i64 2, .int .i64 a0, .int .i64 a2, .int .i64 a3] rfl (by (try simp only [List.map_toArray, List.map_cons, List.map_nil]); first | done | rfl | (simp only [List.length_drop, List.length_take]; rfl)) ?_; (with_reducible refine (stereopsislaw01_do.calls k2 2 a0 a2 a3 t183 t184 _ A32.out).mono ?_); rintro e w39 ⟨rfl, hb⟩; refine ⟨_, rfl, ?_⟩; have n0_ := Aside0.mk (below_step (by repeat (first | (with_reducible first | exact HB.out | apply below_alloc | apply pw_below_drewN | apply below_drew1) | exact HB.out)) hb); clear HB; have HB := n0_; clear n0_; (try clear hb); (try clear hb2); (try clear hk); (try clear hi)) | ((with_reducible refine gate_callee (f := 16) rfl ?_); refine goesL_ (some 144) rfl rfl Try.func16 (by kernel_rfl) rfl #[.int .i64 4, .int .i64 a0, .int .i64 a1, .int .i64 t183] rfl (by (try simp only [List.map_toArray, List.map_cons, List.map_nil]); first | done | rfl | (simp only [List.length_drop, List.length_take]; rfl)) ?_; (with_reducible refine (stereopsislaw01_do.calls k2 4 a0 a1 t183 t185 t186 _ A33.out).mono ?_); rintro e w40 ⟨rfl, hb⟩; refine ⟨_, rfl, ?_⟩; have n0_ := Aside0.mk (below_step (by repeat (first | (with_reducible first | exact HB.out | apply below_alloc | apply pw_below_drewN | apply below_drew1) | exact HB.out)) hb); clear HB; have HB := n0_; clear n0_; (try clear hb); (try clear hb2); (try clear hk); (try clear hi)) | ((with_reducible refine gate_callee (f := 16) rfl ?_); refine goesL_ (some 151) rfl rfl Try.func16 (by kernel_rfl) rfl #[.int .i64 4, .int .i64 a0, .int .i64 a1, .int .i64 a2] rfl (by (try simp only [List.map_toArray, List.map_cons, List.map_nil]); first | done | rfl | (simp only [List.length_drop, List.length_take]; rfl)) ?_; (with_reducible refine (stereopsislaw01_do.calls k2 4 a0 a1 a2 t187 t188 _ A34.out).mono ?_); rintro e w41 ⟨rfl, hb⟩; refine ⟨_, rfl, ?_⟩; have n0_ := Aside0.mk (below_step (by repeat (first | (with_reducible first | exact HB.out | apply below_alloc | apply pw_below_drewN | apply below_drew1) | exact HB.out)) hb); clear HB; have HB := n0_; clear n0_; (try clear hb); (try clear hb2); (try clear hk); (try clear hi)) | ((with_reducible refine gate_callee (f := 16) rfl ?_); refine goesL_ (some 158) rfl rfl Try.func16 (by kernel_rfl) rfl #[.int .i64 4, .int .i64 a0, .int .i64 a1, .int .i64 a3] rfl (by (try simp only [List.map_toArray, List.map_cons, List.map_nil]); first | done | rfl | (simp only [List.length_drop, List.length_take]; rfl)) ?_; (with_reducible refine (stereopsislaw01_do.calls k2 4 a0 a1 a3 t189 t190 _ A35.out).mono ?_); rintro e w42 ⟨rfl, hb⟩; refine ⟨_, rfl, ?_⟩; have n0_ := Aside0.mk (below_step (by repeat (first | (with_reducible first | exact HB.out | apply below_alloc | apply pw_below_drewN | apply below_drew1) | exact HB.out)) hb); clear HB; have HB := n0_; clear n0_; (try clear hb); (try clear hb2); (try clear hk); (try clear hi)) | ((with_reducible refine gate_callee (f := 16) rfl ?_); refine goesL_ (some 165) rfl rfl Try.func16 (by kernel_rfl) rfl #[.int .i64 2, .int .i64 a0, .int .i64 t187, .int .i64 t189] rfl (by (try simp only [List.map_toArray, List.map_cons, List.map_nil]); first | done | rfl | (simp only [List.length_drop, List.length_take]; rfl)) ?_; (with_reducible refine (stereopsislaw01_do.calls k2 2 a0 t187 t189 t191 t192 _ A36.out).mono ?_); rintro e w43 ⟨rfl, hb⟩; refine ⟨_, rfl, ?_⟩; have n0_ := Aside0.mk (below_step (by repeat (first | (with_reducible first | exact HB.out | apply below_alloc | apply pw_below_drewN | apply below_drew1) | exact HB.out)) hb); clear HB; have HB := n0_; clear n0_; (try clear hb); (try clear hb2); (try clear hk); (try clear hi)) | ((with_reducible refine gate_callee (f := 16) rfl ?_); refine goesL_ (some 172) rfl rfl Try.func16 (by kernel_rfl) rfl #[.int .i64 3, .int .i64 a0, .int .i64 t183, .int .i64 a3] rfl (by (try simp only [List.map_toArray, List.map_cons, List.map_nil]); first | done | rfl | (simp only [List.length_drop, List.length_take]; rfl)) ?_; (with_reducible refine (stereopsislaw01_do.calls k2 3 a0 t183 a3 t193 t194 _ A37.out).mono ?_); rintro e w44 ⟨rfl, hb⟩; refine ⟨_, rfl, ?_⟩; have n0_ := Aside0.mk (below_step (by repeat (first | (with_reducible first | exact HB.out | apply below_alloc | apply pw_below_drewN | apply below_drew1) | exact HB.out)) hb); clear HB; have HB := n0_; clear n0_; (try clear hb); (try clear hb2); (try clear hk); (try clear hi)))
              (try simp only [Act.put, List.setIfInBounds_toArray, List.set_cons_zero, List.set_cons_succ])
              go_cut [206] (fun v206 wc => ∃ (kq : Nat) (x206_37 : Bool), v206 = .bool x206_37 ∧ Aside0 (stereopsislaw01_WordArithmetic.j2 kq a0 a1 a2 x206_37 = some true) ∧ Aside0 (kq ≤ k2) ∧ Aside0 (Below w.heap.size w wc))
              case first =>
                have H := HC38.out
                clear HC38
                by_cases c45 : t184 = true
                · subst c45
                  have H1 : (if t186 = true then (if t188 = true then (if t190 = true then (if t192 = true then (if t194 = true then (if t185 = t191 then (stereopsislaw01_WordArithmetic.j2 k2 a0 a1 a2 (t193 != a2)) else (stereopsislaw01_WordArithmetic.j2 k2 a0 a1 a2 true)) else (stereopsislaw01_WordArithmetic.j2 k2 a0 a1 a2 true)) else (stereopsislaw01_WordArithmetic.j2 k2 a0 a1 a2 true)) else (stereopsislaw01_WordArithmetic.j2 k2 a0 a1 a2 true)) else (stereopsislaw01_WordArithmetic.j2 k2 a0 a1 a2 true)) else (stereopsislaw01_WordArithmetic.j2 k2 a0 a1 a2 true)) = some true := by rw [if_pos rfl] at H; exact H
                  clear H
                  have H := H1
                  clear H1
                  by_cases c46 : t186 = true
                  · subst c46
                    have H1 : (if t188 = true then (if t190 = true then (if t192 = true then (if t194 = true then (if t185 = t191 then (stereopsislaw01_WordArithmetic.j2 k2 a0 a1 a2 (t193 != a2)) else (stereopsislaw01_WordArithmetic.j2 k2 a0 a1 a2 true)) else (stereopsislaw01_WordArithmetic.j2 k2 a0 a1 a2 true)) else (stereopsislaw01_WordArithmetic.j2 k2 a0 a1 a2 true)) else (stereopsislaw01_WordArithmetic.j2 k2 a0 a1 a2 true)) else (stereopsislaw01_WordArithmetic.j2 k2 a0 a1 a2 true)) = some true := by rw [if_pos rfl] at H; exact H
                    clear H
                    have H := H1
                    clear H1
                    by_cases c47 : t188 = true
                    · subst c47
                      have H1 : (if t190 = true then (if t192 = true then (if t194 = true then (if t185 = t191 then (stereopsislaw01_WordArithmetic.j2 k2 a0 a1 a2 (t193 != a2)) else (stereopsislaw01_WordArithmetic.j2 k2 a0 a1 a2 true)) else (stereopsislaw01_WordArithmetic.j2 k2 a0 a1 a2 true)) else (stereopsislaw01_WordArithmetic.j2 k2 a0 a1 a2 true)) else (stereopsislaw01_WordArithmetic.j2 k2 a0 a1 a2 true)) = some true := by rw [if_pos rfl] at H; exact H
                      clear H
                      have H := H1
                      clear H1
                      by_cases c48 : t190 = true
                      · subst c48
                        have H1 : (if t192 = true then (if t194 = true then (if t185 = t191 then (stereopsislaw01_WordArithmetic.j2 k2 a0 a1 a2 (t193 != a2)) else (stereopsislaw01_WordArithmetic.j2 k2 a0 a1 a2 true)) else (stereopsislaw01_WordArithmetic.j2 k2 a0 a1 a2 true)) else (stereopsislaw01_WordArithmetic.j2 k2 a0 a1 a2 true)) = some true := by rw [if_pos rfl] at H; exact H
                        clear H
                        have H := H1
                        clear H1
                        by_cases c49 : t192 = true
                        · subst c49
                          have H1 : (if t194 = true then (if t185 = t191 then (stereopsislaw01_WordArithmetic.j2 k2 a0 a1 a2 (t193 != a2)) else (stereopsislaw01_WordArithmetic.j2 k2 a0 a1 a2 true)) else (stereopsislaw01_WordArithmetic.j2 k2 a0 a1 a2 true)) = some true := by rw [if_pos rfl] at H; exact H
                          clear H
                          have H := H1
                          clear H1
                          by_cases c50 : t194 = true
                          · subst c50
                            have H1 : (if t185 = t191 then (stereopsislaw01_WordArithmetic.j2 k2 a0 a1 a2 (t193 != a2)) else (stereopsislaw01_WordArithmetic.j2 k2 a0 a1 a2 true)) = some true := by rw [if_pos rfl] at H; exact H
                            clear H
                            have H := H1
                            clear H1
                            by_cases c51 : t185 = t191
                            · rw [if_pos c51] at H
                              have c51b0 : (t185 == t191) = true := beq_iff_eq.mpr c51
                              have c51b1 : (t185 != t191) = false := bne_eq_false_iff_eq.mpr c51
                              clear c51
                              (first | rw [c51b0] | (simp only [i64_w, i32_w]; rw [c51b0]) | skip)
                              as_aux_lemma =>
                                have H' := Aside0.mk H
                                clear H
                                go_wp2
                                go_meet
                                case rel => exact ⟨_, ((t193 != a2)), (by first | rfl | (simp; done) | (simp [*]; done)), H', ⟨by have := HJ4.out; have := HK2.out; first | omega | exact Nat.le_refl _⟩, ⟨by repeat (first | (with_reducible first | exact HB.out | apply below_alloc | apply pw_below_drewN | apply below_drew1) | exact HB.out)⟩⟩
                            · rw [if_neg c51] at H
                              have c51b0 : (t185 == t191) = false := beq_eq_false_iff_ne.mpr c51
                              have c51b1 : (t185 != t191) = true := bne_iff_ne.mpr c51
                              (first | rw [c51b0] | (simp only [i64_w, i32_w]; rw [c51b0]) | skip)
                              exact absurd H (stereopsislaw01_WordArithmetic.j2_not _ _ _ _)
                          · replace c50 := Bool.eq_false_iff.mpr c50
                            subst c50
                            have H1 : (stereopsislaw01_WordArithmetic.j2 k2 a0 a1 a2 true) = some true := by rw [if_neg (show ¬ (false = true) by decide)] at H; exact H
                            clear H
                            have H := H1
                            clear H1
                            exact absurd H (stereopsislaw01_WordArithmetic.j2_not _ _ _ _)
                        · replace c49 := Bool.eq_false_iff.mpr c49
                          subst c49
                          have H1 : (stereopsislaw01_WordArithmetic.j2 k2 a0 a1 a2 true) = some true := by rw [if_neg (show ¬ (false = true) by decide)] at H; exact H
                          clear H
                          have H := H1
                          clear H1
                          exact absurd H (stereopsislaw01_WordArithmetic.j2_not _ _ _ _)
                      · replace c48 := Bool.eq_false_iff.mpr c48
                        subst c48
                        have H1 : (stereopsislaw01_WordArithmetic.j2 k2 a0 a1 a2 true) = some true := by rw [if_neg (show ¬ (false = true) by decide)] at H; exact H
                        clear H
                        have H := H1
                        clear H1
                        exact absurd H (stereopsislaw01_WordArithmetic.j2_not _ _ _ _)
                    · replace c47 := Bool.eq_false_iff.mpr c47
                      subst c47
                      have H1 : (stereopsislaw01_WordArithmetic.j2 k2 a0 a1 a2 true) = some true := by rw [if_neg (show ¬ (false = true) by decide)] at H; exact H
                      clear H
                      have H := H1
                      clear H1
                      exact absurd H (stereopsislaw01_WordArithmetic.j2_not _ _ _ _)
                  · replace c46 := Bool.eq_false_iff.mpr c46
                    subst c46
                    have H1 : (stereopsislaw01_WordArithmetic.j2 k2 a0 a1 a2 true) = some true := by rw [if_neg (show ¬ (false = true) by decide)] at H; exact H
                    clear H
                    have H := H1
                    clear H1
                    exact absurd H (stereopsislaw01_WordArithmetic.j2_not _ _ _ _)
                · replace c45 := Bool.eq_false_iff.mpr c45
                  subst c45
                  have H1 : (stereopsislaw01_WordArithmetic.j2 k2 a0 a1 a2 true) = some true := by rw [if_neg (show ¬ (false = true) by decide)] at H; exact H
                  clear H
                  have H := H1
                  clear H1
                  exact absurd H (stereopsislaw01_WordArithmetic.j2_not _ _ _ _)
              case rest =>
                clear HC38
                try clear c1
                try clear c2
                try clear p2
                try clear c4
                try clear c5
                try clear p6
                try clear c7
                try clear c9
                try clear c10
                try clear c11
                try clear c14
                try clear c14b0
                try clear c16
                try clear c20
                try clear c21
                try clear c22
                try clear c23
                try clear c24
                try clear c25
                try clear c25b0
                try clear c25b1
                try clear c26
                try clear c26b0
                try clear c26b1
                try clear c45
                try clear c46
                try clear c47
                try clear c48
                try clear c49
                try clear c50
                try clear c51
                try clear c51b0
                try clear c51b1
                try clear p2
                obtain ⟨kq, x206_37, rfl, HA, HJ37, HB⟩ := hcut
                cases kq with
                | zero => exact absurd HA.out (by simp [stereopsislaw01_WordArithmetic.j2])
                | succ kj37 =>
                  have H := HA.out
                  clear HA
                  simp only [stereopsislaw01_WordArithmetic.j2] at H
                  by_cases c52 : x206_37 = true
                  · subst c52
                    have H1 : (some false) = some true := by rw [if_pos rfl] at H; exact H
                    clear H
                    have H := H1
                    clear H1
                    as_aux_lemma =>
                      exact absurd H (by simp)
                  · replace c52 := Bool.eq_false_iff.mpr c52
                    subst c52
                    have H1 : ((stereopsislaw01_do.f kj37 5 a0 a1 a2).bind fun bt195 => ((stereopsislaw01_do.f kj37 6 a0 a1 a2).bind fun bt197 => ((stereopsislaw01_do.f kj37 4 a0 bt195.1 a2).bind fun bt199 => ((stereopsislaw01_do.f kj37 2 a0 bt199.1 bt197.1).bind fun bt201 => (if bt195.2 = true then (if bt197.2 = true then (if bt199.2 = true then (if bt201.2 = true then (if a2 = 0 then ((stereopsislaw01_awake.f kj37).bind fun t203 => (some t203)) else (if bt201.1 = a1 then (if bt197.1 < a2 then (if (wrap64 ((wrap64 (bt195.1 * a2)) + bt197.1)) = a1 then ((stereopsislaw01_awake.f kj37).bind fun t204 => (some t204)) else (some false)) else (some false)) else (some false))) else (some false)) else (some false)) else (some false)) else (some false)))))) = some true := by rw [if_neg (show ¬ (false = true) by decide)] at H; exact H
                    clear H
                    have H := H1
                    clear H1
                    replace H := Option.bind_eq_some_iff.mp H
                    obtain ⟨⟨t195, t196⟩, A530, H⟩ := H
                    replace H : ((stereopsislaw01_do.f kj37 6 a0 a1 a2).bind fun bt197 => ((stereopsislaw01_do.f kj37 4 a0 t195 a2).bind fun bt199 => ((stereopsislaw01_do.f kj37 2 a0 bt199.1 bt197.1).bind fun bt201 => (if t196 = true then (if bt197.2 = true then (if bt199.2 = true then (if bt201.2 = true then (if a2 = 0 then ((stereopsislaw01_awake.f kj37).bind fun t203 => (some t203)) else (if bt201.1 = a1 then (if bt197.1 < a2 then (if (wrap64 ((wrap64 (t195 * a2)) + bt197.1)) = a1 then ((stereopsislaw01_awake.f kj37).bind fun t204 => (some t204)) else (some false)) else (some false)) else (some false))) else (some false)) else (some false)) else (some false)) else (some false))))) = some true := H
                    have A53 := Aside0.mk A530
                    clear A530
                    replace H := Option.bind_eq_some_iff.mp H
                    obtain ⟨⟨t197, t198⟩, A540, H⟩ := H
                    replace H : ((stereopsislaw01_do.f kj37 4 a0 t195 a2).bind fun bt199 => ((stereopsislaw01_do.f kj37 2 a0 bt199.1 t197).bind fun bt201 => (if t196 = true then (if t198 = true then (if bt199.2 = true then (if bt201.2 = true then (if a2 = 0 then ((stereopsislaw01_awake.f kj37).bind fun t203 => (some t203)) else (if bt201.1 = a1 then (if t197 < a2 then (if (wrap64 ((wrap64 (t195 * a2)) + t197)) = a1 then ((stereopsislaw01_awake.f kj37).bind fun t204 => (some t204)) else (some false)) else (some false)) else (some false))) else (some false)) else (some false)) else (some false)) else (some false)))) = some true := H
                    have A54 := Aside0.mk A540
                    clear A540
                    replace H := Option.bind_eq_some_iff.mp H
                    obtain ⟨⟨t199, t200⟩, A550, H⟩ := H
                    replace H : ((stereopsislaw01_do.f kj37 2 a0 t199 t197).bind fun bt201 => (if t196 = true then (if t198 = true then (if t200 = true then (if bt201.2 = true then (if a2 = 0 then ((stereopsislaw01_awake.f kj37).bind fun t203 => (some t203)) else (if bt201.1 = a1 then (if t197 < a2 then (if (wrap64 ((wrap64 (t195 * a2)) + t197)) = a1 then ((stereopsislaw01_awake.f kj37).bind fun t204 => (some t204)) else (some false)) else (some false)) else (some false))) else (some false)) else (some false)) else (some false)) else (some false))) = some true := H
                    have A55 := Aside0.mk A550
                    clear A550
                    replace H := Option.bind_eq_some_iff.mp H
                    obtain ⟨⟨t201, t202⟩, A560, H⟩ := H
                    replace H : (if t196 = true then (if t198 = true then (if t200 = true then (if t202 = true then (if a2 = 0 then ((stereopsislaw01_awake.f kj37).bind fun t203 => (some t203)) else (if t201 = a1 then (if t197 < a2 then (if (wrap64 ((wrap64 (t195 * a2)) + t197)) = a1 then ((stereopsislaw01_awake.f kj37).bind fun t204 => (some t204)) else (some false)) else (some false)) else (some false))) else (some false)) else (some false)) else (some false)) else (some false)) = some true := H
                    have A56 := Aside0.mk A560
                    clear A560
                    by_cases c57 : t196 = true
                    · subst c57
                      have H1 : (if t198 = true then (if t200 = true then (if t202 = true then (if a2 = 0 then ((stereopsislaw01_awake.f kj37).bind fun t203 => (some t203)) else (if t201 = a1 then (if t197 < a2 then (if (wrap64 ((wrap64 (t195 * a2)) + t197)) = a1 then ((stereopsislaw01_awake.f kj37).bind fun t204 => (some t204)) else (some false)) else (some false)) else (some false))) else (some false)) else (some false)) else (some false)) = some true := by rw [if_pos rfl] at H; exact H
                      clear H
                      have H := H1
                      clear H1
                      by_cases c58 : t198 = true
                      · subst c58
                        have H1 : (if t200 = true then (if t202 = true then (if a2 = 0 then ((stereopsislaw01_awake.f kj37).bind fun t203 => (some t203)) else (if t201 = a1 then (if t197 < a2 then (if (wrap64 ((wrap64 (t195 * a2)) + t197)) = a1 then ((stereopsislaw01_awake.f kj37).bind fun t204 => (some t204)) else (some false)) else (some false)) else (some false))) else (some false)) else (some false)) = some true := by rw [if_pos rfl] at H; exact H
                        clear H
                        have H := H1
                        clear H1
                        by_cases c59 : t200 = true
                        · subst c59
                          have H1 : (if t202 = true then (if a2 = 0 then ((stereopsislaw01_awake.f kj37).bind fun t203 => (some t203)) else (if t201 = a1 then (if t197 < a2 then (if (wrap64 ((wrap64 (t195 * a2)) + t197)) = a1 then ((stereopsislaw01_awake.f kj37).bind fun t204 => (some t204)) else (some false)) else (some false)) else (some false))) else (some false)) = some true := by rw [if_pos rfl] at H; exact H
                          clear H
                          have H := H1
                          clear H1
                          by_cases c60 : t202 = true
                          · subst c60
                            have H1 : (if a2 = 0 then ((stereopsislaw01_awake.f kj37).bind fun t203 => (some t203)) else (if t201 = a1 then (if t197 < a2 then (if (wrap64 ((wrap64 (t195 * a2)) + t197)) = a1 then ((stereopsislaw01_awake.f kj37).bind fun t204 => (some t204)) else (some false)) else (some false)) else (some false))) = some true := by rw [if_pos rfl] at H; exact H
                            clear H
                            have H := H1
                            clear H1
                            by_cases c61 : a2 = 0
                            · rw [if_pos c61] at H
                              have c61b0 : (a2 == 0) = true := beq_iff_eq.mpr c61
                              have c61b1 : (a2 != 0) = false := bne_eq_false_iff_eq.mpr c61
                              clear c61
                              replace H := Option.bind_eq_some_iff.mp H
                              obtain ⟨t203, A620, H⟩ := H
                              replace H : (some t203) = some true := H
                              have A62 := Aside0.mk A620
                              clear A620
                              as_aux_lemma =>
                                have HX_ := Aside0.mk (Option.some.inj H)
                                clear H
                                go_wp2_with (first | ((with_reducible refine gate_callee (f := 16) rfl ?_); refine goesL_ (some 211) rfl rfl Try.func16 (by kernel_rfl) rfl #[.int .i64 5, .int .i64 a0, .int .i64 a1, .int .i64 a2] rfl (by (try simp only [List.map_toArray, List.map_cons, List.map_nil]); first | done | rfl | (simp only [List.length_drop, List.length_take]; rfl)) ?_; (with_reducible refine (stereopsislaw01_do.calls kj37 5 a0 a1 a2 t195 true _ A53.out).mono ?_); rintro e w63 ⟨rfl, hb⟩; refine ⟨_, rfl, ?_⟩; have n0_ := Aside0.mk (below_step (by repeat (first | (with_reducible first | exact HB.out | apply below_alloc | apply pw_below_drewN | apply below_drew1) | exact HB.out)) hb); clear HB; have HB := n0_; clear n0_; (try clear hb); (try clear hb2); (try clear hk); (try clear hi)) | ((with_reducible refine gate_callee (f := 16) rfl ?_); refine goesL_ (some 218) rfl rfl Try.func16 (by kernel_rfl) rfl #[.int .i64 6, .int .i64 a0, .int .i64 a1, .int .i64 a2] rfl (by (try simp only [List.map_toArray, List.map_cons, List.map_nil]); first | done | rfl | (simp only [List.length_drop, List.length_take]; rfl)) ?_; (with_reducible refine (stereopsislaw01_do.calls kj37 6 a0 a1 a2 t197 true _ A54.out).mono ?_); rintro e w64 ⟨rfl, hb⟩; refine ⟨_, rfl, ?_⟩; have n0_ := Aside0.mk (below_step (by repeat (first | (with_reducible first | exact HB.out | apply below_alloc | apply pw_below_drewN | apply below_drew1) | exact HB.out)) hb); clear HB; have HB := n0_; clear n0_; (try clear hb); (try clear hb2); (try clear hk); (try clear hi)) | ((with_reducible refine gate_callee (f := 16) rfl ?_); refine goesL_ (some 225) rfl rfl Try.func16 (by kernel_rfl) rfl #[.int .i64 4, .int .i64 a0, .int .i64 t195, .int .i64 a2] rfl (by (try simp only [List.map_toArray, List.map_cons, List.map_nil]); first | done | rfl | (simp only [List.length_drop, List.length_take]; rfl)) ?_; (with_reducible refine (stereopsislaw01_do.calls kj37 4 a0 t195 a2 t199 true _ A55.out).mono ?_); rintro e w65 ⟨rfl, hb⟩; refine ⟨_, rfl, ?_⟩; have n0_ := Aside0.mk (below_step (by repeat (first | (with_reducible first | exact HB.out | apply below_alloc | apply pw_below_drewN | apply below_drew1) | exact HB.out)) hb); clear HB; have HB := n0_; clear n0_; (try clear hb); (try clear hb2); (try clear hk); (try clear hi)) | ((with_reducible refine gate_callee (f := 16) rfl ?_); refine goesL_ (some 232) rfl rfl Try.func16 (by kernel_rfl) rfl #[.int .i64 2, .int .i64 a0, .int .i64 t199, .int .i64 t197] rfl (by (try simp only [List.map_toArray, List.map_cons, List.map_nil]); first | done | rfl | (simp only [List.length_drop, List.length_take]; rfl)) ?_; (with_reducible refine (stereopsislaw01_do.calls kj37 2 a0 t199 t197 t201 true _ A56.out).mono ?_); rintro e w66 ⟨rfl, hb⟩; refine ⟨_, rfl, ?_⟩; have n0_ := Aside0.mk (below_step (by repeat (first | (with_reducible first | exact HB.out | apply below_alloc | apply pw_below_drewN | apply below_drew1) | exact HB.out)) hb); clear HB; have HB := n0_; clear n0_; (try clear hb); (try clear hb2); (try clear hk); (try clear hi)) | (go_at_call 14; (with_reducible refine (stereopsislaw01_awake.calls kj37  t203 _ A62.out).mono ?_); rintro e w67 ⟨rfl, hb⟩; have n0_ := Aside0.mk (below_step (by repeat (first | (with_reducible first | exact HB.out | apply below_alloc | apply pw_below_drewN | apply below_drew1) | exact HB.out)) hb); clear HB; have HB := n0_; clear n0_; (try clear hb); (try clear hb2); (try clear hk); (try clear hi)))
                                go_ret
                                exact ⟨by first | (rw [HX_.out]; done) | (simp [HX_.out]; done) | rfl | (simp [errW_none, errW_some] <;> rfl) | (simp [*, errW_none, errW_some] <;> rfl), by repeat (first | (with_reducible first | exact HB.out | apply below_alloc | apply pw_below_drewN | apply below_drew1) | exact HB.out)⟩
                            · rw [if_neg c61] at H
                              have c61b0 : (a2 == 0) = false := beq_eq_false_iff_ne.mpr c61
                              have c61b1 : (a2 != 0) = true := bne_iff_ne.mpr c61
                              by_cases c68 : t201 = a1
                              · rw [if_pos c68] at H
                                have c68b0 : (t201 == a1) = true := beq_iff_eq.mpr c68
                                have c68b1 : (t201 != a1) = false := bne_eq_false_iff_eq.mpr c68
                                clear c68
                                by_cases c69 : t197 < a2
                                · rw [if_pos c69] at H
                                  have c69b0 : decide (t197 < a2) = true := decide_eq_true c69
                                  clear c69
                                  by_cases c70 : (wrap64 ((wrap64 (t195 * a2)) + t197)) = a1
                                  · rw [if_pos c70] at H
                                    have c70b0 : ((wrap64 ((wrap64 (t195 * a2)) + t197)) == a1) = true := beq_iff_eq.mpr c70
                                    have c70b1 : ((wrap64 ((wrap64 (t195 * a2)) + t197)) != a1) = false := bne_eq_false_iff_eq.mpr c70
                                    clear c70
                                    replace H := Option.bind_eq_some_iff.mp H
                                    obtain ⟨t204, A710, H⟩ := H
                                    replace H : (some t204) = some true := H
                                    have A71 := Aside0.mk A710
                                    clear A710
                                    as_aux_lemma =>
                                      have HX_ := Aside0.mk (Option.some.inj H)
                                      clear H
                                      go_wp2_with (first | ((with_reducible refine gate_callee (f := 16) rfl ?_); refine goesL_ (some 211) rfl rfl Try.func16 (by kernel_rfl) rfl #[.int .i64 5, .int .i64 a0, .int .i64 a1, .int .i64 a2] rfl (by (try simp only [List.map_toArray, List.map_cons, List.map_nil]); first | done | rfl | (simp only [List.length_drop, List.length_take]; rfl)) ?_; (with_reducible refine (stereopsislaw01_do.calls kj37 5 a0 a1 a2 t195 true _ A53.out).mono ?_); rintro e w72 ⟨rfl, hb⟩; refine ⟨_, rfl, ?_⟩; have n0_ := Aside0.mk (below_step (by repeat (first | (with_reducible first | exact HB.out | apply below_alloc | apply pw_below_drewN | apply below_drew1) | exact HB.out)) hb); clear HB; have HB := n0_; clear n0_; (try clear hb); (try clear hb2); (try clear hk); (try clear hi)) | ((with_reducible refine gate_callee (f := 16) rfl ?_); refine goesL_ (some 218) rfl rfl Try.func16 (by kernel_rfl) rfl #[.int .i64 6, .int .i64 a0, .int .i64 a1, .int .i64 a2] rfl (by (try simp only [List.map_toArray, List.map_cons, List.map_nil]); first | done | rfl | (simp only [List.length_drop, List.length_take]; rfl)) ?_; (with_reducible refine (stereopsislaw01_do.calls kj37 6 a0 a1 a2 t197 true _ A54.out).mono ?_); rintro e w73 ⟨rfl, hb⟩; refine ⟨_, rfl, ?_⟩; have n0_ := Aside0.mk (below_step (by repeat (first | (with_reducible first | exact HB.out | apply below_alloc | apply pw_below_drewN | apply below_drew1) | exact HB.out)) hb); clear HB; have HB := n0_; clear n0_; (try clear hb); (try clear hb2); (try clear hk); (try clear hi)) | ((with_reducible refine gate_callee (f := 16) rfl ?_); refine goesL_ (some 225) rfl rfl Try.func16 (by kernel_rfl) rfl #[.int .i64 4, .int .i64 a0, .int .i64 t195, .int .i64 a2] rfl (by (try simp only [List.map_toArray, List.map_cons, List.map_nil]); first | done | rfl | (simp only [List.length_drop, List.length_take]; rfl)) ?_; (with_reducible refine (stereopsislaw01_do.calls kj37 4 a0 t195 a2 t199 true _ A55.out).mono ?_); rintro e w74 ⟨rfl, hb⟩; refine ⟨_, rfl, ?_⟩; have n0_ := Aside0.mk (below_step (by repeat (first | (with_reducible first | exact HB.out | apply below_alloc | apply pw_below_drewN | apply below_drew1) | exact HB.out)) hb); clear HB; have HB := n0_; clear n0_; (try clear hb); (try clear hb2); (try clear hk); (try clear hi)) | ((with_reducible refine gate_callee (f := 16) rfl ?_); refine goesL_ (some 232) rfl rfl Try.func16 (by kernel_rfl) rfl #[.int .i64 2, .int .i64 a0, .int .i64 t199, .int .i64 t197] rfl (by (try simp only [List.map_toArray, List.map_cons, List.map_nil]); first | done | rfl | (simp only [List.length_drop, List.length_take]; rfl)) ?_; (with_reducible refine (stereopsislaw01_do.calls kj37 2 a0 t199 t197 t201 true _ A56.out).mono ?_); rintro e w75 ⟨rfl, hb⟩; refine ⟨_, rfl, ?_⟩; have n0_ := Aside0.mk (below_step (by repeat (first | (with_reducible first | exact HB.out | apply below_alloc | apply pw_below_drewN | apply below_drew1) | exact HB.out)) hb); clear HB; have HB := n0_; clear n0_; (try clear hb); (try clear hb2); (try clear hk); (try clear hi)) | (go_at_call 14; (with_reducible refine (stereopsislaw01_awake.calls kj37  t204 _ A71.out).mono ?_); rintro e w76 ⟨rfl, hb⟩; have n0_ := Aside0.mk (below_step (by repeat (first | (with_reducible first | exact HB.out | apply below_alloc | apply pw_below_drewN | apply below_drew1) | exact HB.out)) hb); clear HB; have HB := n0_; clear n0_; (try clear hb); (try clear hb2); (try clear hk); (try clear hi)))
                                      go_ret
                                      exact ⟨by first | (rw [HX_.out]; done) | (simp [HX_.out]; done) | rfl | (simp [errW_none, errW_some] <;> rfl) | (simp [*, errW_none, errW_some] <;> rfl), by repeat (first | (with_reducible first | exact HB.out | apply below_alloc | apply pw_below_drewN | apply below_drew1) | exact HB.out)⟩
                                  · rw [if_neg c70] at H
                                    have c70b0 : ((wrap64 ((wrap64 (t195 * a2)) + t197)) == a1) = false := beq_eq_false_iff_ne.mpr c70
                                    have c70b1 : ((wrap64 ((wrap64 (t195 * a2)) + t197)) != a1) = true := bne_iff_ne.mpr c70
                                    as_aux_lemma =>
                                      exact absurd H (by simp)
                                · rw [if_neg c69] at H
                                  have c69b0 : decide (t197 < a2) = false := decide_eq_false c69
                                  clear c69
                                  as_aux_lemma =>
                                    exact absurd H (by simp)
                              · rw [if_neg c68] at H
                                have c68b0 : (t201 == a1) = false := beq_eq_false_iff_ne.mpr c68
                                have c68b1 : (t201 != a1) = true := bne_iff_ne.mpr c68
                                as_aux_lemma =>
                                  exact absurd H (by simp)
                          · replace c60 := Bool.eq_false_iff.mpr c60
                            subst c60
                            have H1 : (some false) = some true := by rw [if_neg (show ¬ (false = true) by decide)] at H; exact H
                            clear H
                            have H := H1
                            clear H1
                            as_aux_lemma =>
                              exact absurd H (by simp)
                        · replace c59 := Bool.eq_false_iff.mpr c59
                          subst c59
                          have H1 : (some false) = some true := by rw [if_neg (show ¬ (false = true) by decide)] at H; exact H
                          clear H
                          have H := H1
                          clear H1
                          as_aux_lemma =>
                            exact absurd H (by simp)
                      · replace c58 := Bool.eq_false_iff.mpr c58
                        subst c58
                        have H1 : (some false) = some true := by rw [if_neg (show ¬ (false = true) by decide)] at H; exact H
                        clear H
                        have H := H1
                        clear H1
                        as_aux_lemma =>
                          exact absurd H (by simp)
                    · replace c57 := Bool.eq_false_iff.mpr c57
                      subst c57
                      have H1 : (some false) = some true := by rw [if_neg (show ¬ (false = true) by decide)] at H; exact H
                      clear H
                      have H := H1
                      clear H1
                      as_aux_lemma =>
                        exact absurd H (by simp)

/-- THE ONE PURE STATEMENT of stereopsislaw01_WordArithmetic: yours. -/
def stereopsislaw01_WordArithmetic.Pure : Prop := ∀ (a0 : Int) (a1 : Int) (a2 : Int) (a3 : Int), (Lit.int .i64 a0).wf = true → (Lit.int .i64 a1).wf = true → (Lit.int .i64 a2).wf = true → (Lit.int .i64 a3).wf = true → ∃ k, stereopsislaw01_WordArithmetic.f k a0 a1 a2 a3 = some true
theorem stereopsislaw01_WordArithmetic.walk (P : stereopsislaw01_WordArithmetic.Pure) (a0 : Int) (a1 : Int) (a2 : Int) (a3 : Int) (w : World) (w0 : (Lit.int .i64 a0).wf = true) (w1 : (Lit.int .i64 a1).wf = true) (w2 : (Lit.int .i64 a2).wf = true) (w3 : (Lit.int .i64 a3).wf = true) :
    Calls Try.prog 4 #[.int .i64 a0, .int .i64 a1, .int .i64 a2, .int .i64 a3] w fun e w' => e = .returned (.bool true) ∧ Below w.heap.size w w' := by
  obtain ⟨k, h⟩ := P a0 a1 a2 a3 w0 w1 w2 w3
  refine (stereopsislaw01_WordArithmetic.calls k a0 a1 a2 a3 w h).mono ?_
  rintro e w' ⟨rfl, hd⟩
  exact ⟨rfl, hd⟩

end Go.Proofs.Ytcbglmdnfipgnaa.P
