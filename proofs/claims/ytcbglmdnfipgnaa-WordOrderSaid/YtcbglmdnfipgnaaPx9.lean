/- A part of the proof of a law of the seat: Go functions as plain Lean functions, and the proofs that the machine's calls do what these do, under no condition but the row's own. Laid by this session's wip/tools/hprint.py, over the kit's print and this session's own contracts. -/
import Derived.Test.YtcbglmdnfipgnaaPx0
import Derived.Test.YtcbglmdnfipgnaaPx1
import Derived.Test.YtcbglmdnfipgnaaPx3
import Derived.Test.YtcbglmdnfipgnaaPx5
namespace Go.Proofs.Ytcbglmdnfipgnaa.P
open Go.RowKit Go.Proofs.YtcbglmdnfipgnaaW.PrintWords Go.Proofs.YtcbglmdnfipgnaaW.PrintLast Go.Proofs.YtcbglmdnfipgnaaW.PrintMore
attribute [local go_sem] max2_int min2_int max_two min_two max_three min_three max_four min_four   -- for this text's walks alone
set_option linter.unusedVariables false
set_option linter.unusedSimpArgs false

/-! ### stereopsislaw01_WordOrder: function 6 -/
def stereopsislaw01_WordOrder.j0 : Nat → Int → Int → Int → Int → Bool → Option (Bool)
  | 0, _, _, _, _, _ => none
  | k + 1, x0, x1, x2, x3, x34 => if x34 = true then ((stereopsislaw01_awake.f k).bind fun t267 => (some t267)) else ((stereopsislaw01_do.f k 14 x0 x1 x2).bind fun bt268 => ((stereopsislaw01_do.f k 14 x0 x2 x1).bind fun bt270 => ((stereopsislaw01_do.f k 14 x0 x2 x3).bind fun bt272 => ((stereopsislaw01_do.f k 14 x0 x1 x3).bind fun bt274 => ((stereopsislaw01_do.f k 13 x0 x1 x2).bind fun bt276 => (if bt268.2 = true then (if bt270.2 = true then (if bt272.2 = true then (if bt274.2 = true then (if bt276.2 = true then (if (wrap64 ((wrap64 (bt268.1 + bt270.1)) + bt276.1)) = 1 then (if ((bt276.1 == 1) == (x1 == x2)) = true then (if bt268.1 = 0 then ((stereopsislaw01_awake.f k).bind fun t278 => (some t278)) else (if bt272.1 = 0 then ((stereopsislaw01_awake.f k).bind fun t279 => (some t279)) else (if bt274.1 = 1 then ((stereopsislaw01_awake.f k).bind fun t280 => (some t280)) else (some false)))) else (some false)) else (some false)) else (some false)) else (some false)) else (some false)) else (some false)) else (some false)))))))
def stereopsislaw01_WordOrder.f (k : Nat) (a0 : Int) (a1 : Int) (a2 : Int) (a3 : Int) : Option (Bool) := (stereopsisref01_Word.f k a0 a1).bind fun t264 => (if t264 = true then ((stereopsisref01_Word.f k a0 a2).bind fun t265 => (if t265 = true then ((stereopsisref01_Word.f k a0 a3).bind fun t266 => (stereopsislaw01_WordOrder.j0 k a0 a1 a2 a3 (!t266))) else (stereopsislaw01_WordOrder.j0 k a0 a1 a2 a3 true))) else (stereopsislaw01_WordOrder.j0 k a0 a1 a2 a3 true))
theorem stereopsislaw01_WordOrder.mono_l : ∀ k, (∀ y0 y1 y2 y3 y4, LeO (stereopsislaw01_WordOrder.j0 k y0 y1 y2 y3 y4) (stereopsislaw01_WordOrder.j0 (k + 1) y0 y1 y2 y3 y4))
  | 0 => fun _ _ _ _ _ r h => by simp [stereopsislaw01_WordOrder.j0] at h
  | k + 1 => by
    have ih0 := stereopsislaw01_WordOrder.mono_l k
    · intro y0 y1 y2 y3 y4
      unfold stereopsislaw01_WordOrder.j0
      repeat' first
      | (with_reducible exact ih0 _ _ _ _ _)
      | (with_reducible exact stereopsislaw01_awake.mono _)
      | (with_reducible exact stereopsislaw01_do.mono _ _ _ _ _)
      | (with_reducible exact stereopsisref01_Word.mono _ _ _)
      | (with_reducible exact LeO.refl _)
      | (with_reducible exact LeO.none _)
      | (with_reducible refine LeO.ite ?_ ?_)
      | (with_reducible refine LeO.bind ?_ (fun _ => ?_))
      | exact ih0 _ _ _ _ _
      | exact stereopsislaw01_awake.mono _
      | exact stereopsislaw01_do.mono _ _ _ _ _
      | exact stereopsisref01_Word.mono _ _ _
      | exact LeO.none _
      | refine LeO.ite ?_ ?_
      | refine LeO.bind ?_ (fun _ => ?_)
theorem stereopsislaw01_WordOrder.mono : ∀ a0 a1 a2 a3 k, LeO (stereopsislaw01_WordOrder.f k a0 a1 a2 a3) (stereopsislaw01_WordOrder.f (k + 1) a0 a1 a2 a3) := by
  intro a0 a1 a2 a3 k
  have ih0 := stereopsislaw01_WordOrder.mono_l k
  unfold stereopsislaw01_WordOrder.f
  repeat' first
      | (with_reducible exact ih0 _ _ _ _ _)
      | (with_reducible exact stereopsislaw01_awake.mono _)
      | (with_reducible exact stereopsislaw01_do.mono _ _ _ _ _)
      | (with_reducible exact stereopsisref01_Word.mono _ _ _)
      | (with_reducible exact LeO.refl _)
      | (with_reducible exact LeO.none _)
      | (with_reducible refine LeO.ite ?_ ?_)
      | (with_reducible refine LeO.bind ?_ (fun _ => ?_))
      | exact ih0 _ _ _ _ _
      | exact stereopsislaw01_awake.mono _
      | exact stereopsislaw01_do.mono _ _ _ _ _
      | exact stereopsisref01_Word.mono _ _ _
      | exact LeO.none _
      | refine LeO.ite ?_ ?_
      | refine LeO.bind ?_ (fun _ => ?_)
set_option maxHeartbeats 8000000 in
set_option maxRecDepth 100000 in
theorem stereopsislaw01_WordOrder.calls (k : Nat) (a0 : Int) (a1 : Int) (a2 : Int) (a3 : Int) (w : World) (h : stereopsislaw01_WordOrder.f k a0 a1 a2 a3 = some true) :
    Calls Try.prog 6 #[.int .i64 a0, .int .i64 a1, .int .i64 a2, .int .i64 a3] w fun e w' => e = .returned (.bool true) ∧ Below w.heap.size w w' := by
  have HB := Aside0.mk (Below.refl w.heap.size w)
  have H : ((stereopsisref01_Word.f k a0 a1).bind fun t264 => (if t264 = true then ((stereopsisref01_Word.f k a0 a2).bind fun t265 => (if t265 = true then ((stereopsisref01_Word.f k a0 a3).bind fun t266 => (stereopsislaw01_WordOrder.j0 k a0 a1 a2 a3 (!t266))) else (stereopsislaw01_WordOrder.j0 k a0 a1 a2 a3 true))) else (stereopsislaw01_WordOrder.j0 k a0 a1 a2 a3 true))) = some true := h
  clear h
  have HC5 := Aside0.mk H
  clear H
  go_enter Try.func6, Try.ntmps6
  go_upto_region 1 with (fail)
  go_cut [34] (fun v34 wc => ∃ (kq : Nat) (x34_4 : Bool), v34 = .bool x34_4 ∧ Aside0 (stereopsislaw01_WordOrder.j0 kq a0 a1 a2 a3 x34_4 = some true) ∧ Aside0 (kq ≤ k) ∧ Aside0 (Below w.heap.size w wc))
  case first =>
    have H := HC5.out
    clear HC5
    replace H := Option.bind_eq_some_iff.mp H
    obtain ⟨t264, A60, H⟩ := H
    replace H : (if t264 = true then ((stereopsisref01_Word.f k a0 a2).bind fun t265 => (if t265 = true then ((stereopsisref01_Word.f k a0 a3).bind fun t266 => (stereopsislaw01_WordOrder.j0 k a0 a1 a2 a3 (!t266))) else (stereopsislaw01_WordOrder.j0 k a0 a1 a2 a3 true))) else (stereopsislaw01_WordOrder.j0 k a0 a1 a2 a3 true)) = some true := H
    have A6 := Aside0.mk A60
    clear A60
    by_cases c7 : t264 = true
    · subst c7
      have H1 : ((stereopsisref01_Word.f k a0 a2).bind fun t265 => (if t265 = true then ((stereopsisref01_Word.f k a0 a3).bind fun t266 => (stereopsislaw01_WordOrder.j0 k a0 a1 a2 a3 (!t266))) else (stereopsislaw01_WordOrder.j0 k a0 a1 a2 a3 true))) = some true := by rw [if_pos rfl] at H; exact H
      clear H
      have H := H1
      clear H1
      replace H := Option.bind_eq_some_iff.mp H
      obtain ⟨t265, A80, H⟩ := H
      replace H : (if t265 = true then ((stereopsisref01_Word.f k a0 a3).bind fun t266 => (stereopsislaw01_WordOrder.j0 k a0 a1 a2 a3 (!t266))) else (stereopsislaw01_WordOrder.j0 k a0 a1 a2 a3 true)) = some true := H
      have A8 := Aside0.mk A80
      clear A80
      by_cases c9 : t265 = true
      · subst c9
        have H1 : ((stereopsisref01_Word.f k a0 a3).bind fun t266 => (stereopsislaw01_WordOrder.j0 k a0 a1 a2 a3 (!t266))) = some true := by rw [if_pos rfl] at H; exact H
        clear H
        have H := H1
        clear H1
        replace H := Option.bind_eq_some_iff.mp H
        obtain ⟨t266, A100, H⟩ := H
        replace H : (stereopsislaw01_WordOrder.j0 k a0 a1 a2 a3 (!t266)) = some true := H
        have A10 := Aside0.mk A100
        clear A100
        as_aux_lemma =>
          have H' := Aside0.mk H
          clear H
          go_wp2_with (first | ((with_reducible refine gate_callee (f := 10) rfl ?_); refine goesL_ (some 21) rfl rfl Try.func10 (by kernel_rfl) rfl #[.int .i64 a0, .int .i64 a1] rfl (by (try simp only [List.map_toArray, List.map_cons, List.map_nil]); first | done | rfl | (simp only [List.length_drop, List.length_take]; rfl)) ?_; (with_reducible refine (stereopsisref01_Word.calls k a0 a1 true _ A6.out).mono ?_); rintro e w' ⟨rfl, ⟨nd, rfl⟩⟩; refine ⟨_, rfl, ?_⟩) | (go_at_call 10; (with_reducible refine (stereopsisref01_Word.calls k a0 a2 true _ A8.out).mono ?_); rintro e w' ⟨rfl, ⟨nd, rfl⟩⟩) | (go_at_call 10; (with_reducible refine (stereopsisref01_Word.calls k a0 a3 t266 _ A10.out).mono ?_); rintro e w' ⟨rfl, ⟨nd, rfl⟩⟩))
          go_meet
          case rel => exact ⟨_, (!t266), (by first | rfl | (simp; done) | (simp [*]; done)), H', ⟨by first | omega | exact Nat.le_refl _⟩, ⟨by repeat (first | (with_reducible first | exact HB.out | apply below_alloc | apply pw_below_drewN | apply below_drew1) | exact HB.out)⟩⟩
      · replace c9 := Bool.eq_false_iff.mpr c9
        subst c9
        have H1 : (stereopsislaw01_WordOrder.j0 k a0 a1 a2 a3 true) = some true := by rw [if_neg (show ¬ (false = true) by decide)] at H; exact H
        clear H
        have H := H1
        clear H1
        as_aux_lemma =>
          have H' := Aside0.mk H
          clear H
          go_wp2_with (first | ((with_reducible refine gate_callee (f := 10) rfl ?_); refine goesL_ (some 21) rfl rfl Try.func10 (by kernel_rfl) rfl #[.int .i64 a0, .int .i64 a1] rfl (by (try simp only [List.map_toArray, List.map_cons, List.map_nil]); first | done | rfl | (simp only [List.length_drop, List.length_take]; rfl)) ?_; (with_reducible refine (stereopsisref01_Word.calls k a0 a1 true _ A6.out).mono ?_); rintro e w' ⟨rfl, ⟨nd, rfl⟩⟩; refine ⟨_, rfl, ?_⟩) | (go_at_call 10; (with_reducible refine (stereopsisref01_Word.calls k a0 a2 false _ A8.out).mono ?_); rintro e w' ⟨rfl, ⟨nd, rfl⟩⟩))
          go_meet
          case rel => exact ⟨_, (true), (by first | rfl | (simp; done) | (simp [*]; done)), H', ⟨by first | omega | exact Nat.le_refl _⟩, ⟨by repeat (first | (with_reducible first | exact HB.out | apply below_alloc | apply pw_below_drewN | apply below_drew1) | exact HB.out)⟩⟩
    · replace c7 := Bool.eq_false_iff.mpr c7
      subst c7
      have H1 : (stereopsislaw01_WordOrder.j0 k a0 a1 a2 a3 true) = some true := by rw [if_neg (show ¬ (false = true) by decide)] at H; exact H
      clear H
      have H := H1
      clear H1
      as_aux_lemma =>
        have H' := Aside0.mk H
        clear H
        go_wp2_with (first | ((with_reducible refine gate_callee (f := 10) rfl ?_); refine goesL_ (some 21) rfl rfl Try.func10 (by kernel_rfl) rfl #[.int .i64 a0, .int .i64 a1] rfl (by (try simp only [List.map_toArray, List.map_cons, List.map_nil]); first | done | rfl | (simp only [List.length_drop, List.length_take]; rfl)) ?_; (with_reducible refine (stereopsisref01_Word.calls k a0 a1 false _ A6.out).mono ?_); rintro e w' ⟨rfl, ⟨nd, rfl⟩⟩; refine ⟨_, rfl, ?_⟩))
        go_meet
        case rel => exact ⟨_, (true), (by first | rfl | (simp; done) | (simp [*]; done)), H', ⟨by first | omega | exact Nat.le_refl _⟩, ⟨by repeat (first | (with_reducible first | exact HB.out | apply below_alloc | apply pw_below_drewN | apply below_drew1) | exact HB.out)⟩⟩
  case rest =>
    clear HC5
    try clear c1
    try clear p2
    try clear c6
    try clear c7
    try clear c9
    try clear c10
    obtain ⟨kq, x34_4, rfl, HA, HJ4, HB⟩ := hcut
    cases kq with
    | zero => exact absurd HA.out (by simp [stereopsislaw01_WordOrder.j0])
    | succ kj4 =>
      have H := HA.out
      clear HA
      simp only [stereopsislaw01_WordOrder.j0] at H
      by_cases c11 : x34_4 = true
      · subst c11
        have H1 : ((stereopsislaw01_awake.f kj4).bind fun t267 => (some t267)) = some true := by rw [if_pos rfl] at H; exact H
        clear H
        have H := H1
        clear H1
        replace H := Option.bind_eq_some_iff.mp H
        obtain ⟨t267, A120, H⟩ := H
        replace H : (some t267) = some true := H
        have A12 := Aside0.mk A120
        clear A120
        as_aux_lemma =>
          have HX_ := Aside0.mk (Option.some.inj H)
          clear H
          go_wp2_with (first | ((with_reducible refine gate_callee (f := 14) rfl ?_); refine goesL_ (some 35) rfl rfl Try.func14 (by kernel_rfl) rfl #[] rfl (by (try simp only [List.map_toArray, List.map_cons, List.map_nil]); first | done | rfl | (simp only [List.length_drop, List.length_take]; rfl)) ?_; (with_reducible refine (stereopsislaw01_awake.calls kj4  t267 _ A12.out).mono ?_); rintro e w13 ⟨rfl, hb⟩; refine ⟨_, rfl, ?_⟩; have n0_ := Aside0.mk (below_step (by repeat (first | (with_reducible first | exact HB.out | apply below_alloc | apply pw_below_drewN | apply below_drew1) | exact HB.out)) hb); clear HB; have HB := n0_; clear n0_; (try clear hb); (try clear hb2); (try clear hk); (try clear hi)))
          go_ret
          exact ⟨by first | (rw [HX_.out]; done) | (simp [HX_.out]; done) | rfl | (simp [errW_none, errW_some] <;> rfl) | (simp [*, errW_none, errW_some] <;> rfl), by repeat (first | (with_reducible first | exact HB.out | apply below_alloc | apply pw_below_drewN | apply below_drew1) | exact HB.out)⟩
      · replace c11 := Bool.eq_false_iff.mpr c11
        subst c11
        have H1 : ((stereopsislaw01_do.f kj4 14 a0 a1 a2).bind fun bt268 => ((stereopsislaw01_do.f kj4 14 a0 a2 a1).bind fun bt270 => ((stereopsislaw01_do.f kj4 14 a0 a2 a3).bind fun bt272 => ((stereopsislaw01_do.f kj4 14 a0 a1 a3).bind fun bt274 => ((stereopsislaw01_do.f kj4 13 a0 a1 a2).bind fun bt276 => (if bt268.2 = true then (if bt270.2 = true then (if bt272.2 = true then (if bt274.2 = true then (if bt276.2 = true then (if (wrap64 ((wrap64 (bt268.1 + bt270.1)) + bt276.1)) = 1 then (if ((bt276.1 == 1) == (a1 == a2)) = true then (if bt268.1 = 0 then ((stereopsislaw01_awake.f kj4).bind fun t278 => (some t278)) else (if bt272.1 = 0 then ((stereopsislaw01_awake.f kj4).bind fun t279 => (some t279)) else (if bt274.1 = 1 then ((stereopsislaw01_awake.f kj4).bind fun t280 => (some t280)) else (some false)))) else (some false)) else (some false)) else (some false)) else (some false)) else (some false)) else (some false)) else (some false))))))) = some true := by rw [if_neg (show ¬ (false = true) by decide)] at H; exact H
        clear H
        have H := H1
        clear H1
        replace H := Option.bind_eq_some_iff.mp H
        obtain ⟨⟨t268, t269⟩, A140, H⟩ := H
        replace H : ((stereopsislaw01_do.f kj4 14 a0 a2 a1).bind fun bt270 => ((stereopsislaw01_do.f kj4 14 a0 a2 a3).bind fun bt272 => ((stereopsislaw01_do.f kj4 14 a0 a1 a3).bind fun bt274 => ((stereopsislaw01_do.f kj4 13 a0 a1 a2).bind fun bt276 => (if t269 = true then (if bt270.2 = true then (if bt272.2 = true then (if bt274.2 = true then (if bt276.2 = true then (if (wrap64 ((wrap64 (t268 + bt270.1)) + bt276.1)) = 1 then (if ((bt276.1 == 1) == (a1 == a2)) = true then (if t268 = 0 then ((stereopsislaw01_awake.f kj4).bind fun t278 => (some t278)) else (if bt272.1 = 0 then ((stereopsislaw01_awake.f kj4).bind fun t279 => (some t279)) else (if bt274.1 = 1 then ((stereopsislaw01_awake.f kj4).bind fun t280 => (some t280)) else (some false)))) else (some false)) else (some false)) else (some false)) else (some false)) else (some false)) else (some false)) else (some false)))))) = some true := H
        have A14 := Aside0.mk A140
        clear A140
        replace H := Option.bind_eq_some_iff.mp H
        obtain ⟨⟨t270, t271⟩, A150, H⟩ := H
        replace H : ((stereopsislaw01_do.f kj4 14 a0 a2 a3).bind fun bt272 => ((stereopsislaw01_do.f kj4 14 a0 a1 a3).bind fun bt274 => ((stereopsislaw01_do.f kj4 13 a0 a1 a2).bind fun bt276 => (if t269 = true then (if t271 = true then (if bt272.2 = true then (if bt274.2 = true then (if bt276.2 = true then (if (wrap64 ((wrap64 (t268 + t270)) + bt276.1)) = 1 then (if ((bt276.1 == 1) == (a1 == a2)) = true then (if t268 = 0 then ((stereopsislaw01_awake.f kj4).bind fun t278 => (some t278)) else (if bt272.1 = 0 then ((stereopsislaw01_awake.f kj4).bind fun t279 => (some t279)) else (if bt274.1 = 1 then ((stereopsislaw01_awake.f kj4).bind fun t280 => (some t280)) else (some false)))) else (some false)) else (some false)) else (some false)) else (some false)) else (some false)) else (some false)) else (some false))))) = some true := H
        have A15 := Aside0.mk A150
        clear A150
        replace H := Option.bind_eq_some_iff.mp H
        obtain ⟨⟨t272, t273⟩, A160, H⟩ := H
        replace H : ((stereopsislaw01_do.f kj4 14 a0 a1 a3).bind fun bt274 => ((stereopsislaw01_do.f kj4 13 a0 a1 a2).bind fun bt276 => (if t269 = true then (if t271 = true then (if t273 = true then (if bt274.2 = true then (if bt276.2 = true then (if (wrap64 ((wrap64 (t268 + t270)) + bt276.1)) = 1 then (if ((bt276.1 == 1) == (a1 == a2)) = true then (if t268 = 0 then ((stereopsislaw01_awake.f kj4).bind fun t278 => (some t278)) else (if t272 = 0 then ((stereopsislaw01_awake.f kj4).bind fun t279 => (some t279)) else (if bt274.1 = 1 then ((stereopsislaw01_awake.f kj4).bind fun t280 => (some t280)) else (some false)))) else (some false)) else (some false)) else (some false)) else (some false)) else (some false)) else (some false)) else (some false)))) = some true := H
        have A16 := Aside0.mk A160
        clear A160
        replace H := Option.bind_eq_some_iff.mp H
        obtain ⟨⟨t274, t275⟩, A170, H⟩ := H
        replace H : ((stereopsislaw01_do.f kj4 13 a0 a1 a2).bind fun bt276 => (if t269 = true then (if t271 = true then (if t273 = true then (if t275 = true then (if bt276.2 = true then (if (wrap64 ((wrap64 (t268 + t270)) + bt276.1)) = 1 then (if ((bt276.1 == 1) == (a1 == a2)) = true then (if t268 = 0 then ((stereopsislaw01_awake.f kj4).bind fun t278 => (some t278)) else (if t272 = 0 then ((stereopsislaw01_awake.f kj4).bind fun t279 => (some t279)) else (if t274 = 1 then ((stereopsislaw01_awake.f kj4).bind fun t280 => (some t280)) else (some false)))) else (some false)) else (some false)) else (some false)) else (some false)) else (some false)) else (some false)) else (some false))) = some true := H
        have A17 := Aside0.mk A170
        clear A170
        replace H := Option.bind_eq_some_iff.mp H
        obtain ⟨⟨t276, t277⟩, A180, H⟩ := H
        replace H : (if t269 = true then (if t271 = true then (if t273 = true then (if t275 = true then (if t277 = true then (if (wrap64 ((wrap64 (t268 + t270)) + t276)) = 1 then (if ((t276 == 1) == (a1 == a2)) = true then (if t268 = 0 then ((stereopsislaw01_awake.f kj4).bind fun t278 => (some t278)) else (if t272 = 0 then ((stereopsislaw01_awake.f kj4).bind fun t279 => (some t279)) else (if t274 = 1 then ((stereopsislaw01_awake.f kj4).bind fun t280 => (some t280)) else (some false)))) else (some false)) else (some false)) else (some false)) else (some false)) else (some false)) else (some false)) else (some false)) = some true := H
        have A18 := Aside0.mk A180
        clear A180
        by_cases c19 : t269 = true
        · subst c19
          have H1 : (if t271 = true then (if t273 = true then (if t275 = true then (if t277 = true then (if (wrap64 ((wrap64 (t268 + t270)) + t276)) = 1 then (if ((t276 == 1) == (a1 == a2)) = true then (if t268 = 0 then ((stereopsislaw01_awake.f kj4).bind fun t278 => (some t278)) else (if t272 = 0 then ((stereopsislaw01_awake.f kj4).bind fun t279 => (some t279)) else (if t274 = 1 then ((stereopsislaw01_awake.f kj4).bind fun t280 => (some t280)) else (some false)))) else (some false)) else (some false)) else (some false)) else (some false)) else (some false)) else (some false)) = some true := by rw [if_pos rfl] at H; exact H
          clear H
          have H := H1
          clear H1
          by_cases c20 : t271 = true
          · subst c20
            have H1 : (if t273 = true then (if t275 = true then (if t277 = true then (if (wrap64 ((wrap64 (t268 + t270)) + t276)) = 1 then (if ((t276 == 1) == (a1 == a2)) = true then (if t268 = 0 then ((stereopsislaw01_awake.f kj4).bind fun t278 => (some t278)) else (if t272 = 0 then ((stereopsislaw01_awake.f kj4).bind fun t279 => (some t279)) else (if t274 = 1 then ((stereopsislaw01_awake.f kj4).bind fun t280 => (some t280)) else (some false)))) else (some false)) else (some false)) else (some false)) else (some false)) else (some false)) = some true := by rw [if_pos rfl] at H; exact H
            clear H
            have H := H1
            clear H1
            by_cases c21 : t273 = true
            · subst c21
              have H1 : (if t275 = true then (if t277 = true then (if (wrap64 ((wrap64 (t268 + t270)) + t276)) = 1 then (if ((t276 == 1) == (a1 == a2)) = true then (if t268 = 0 then ((stereopsislaw01_awake.f kj4).bind fun t278 => (some t278)) else (if t272 = 0 then ((stereopsislaw01_awake.f kj4).bind fun t279 => (some t279)) else (if t274 = 1 then ((stereopsislaw01_awake.f kj4).bind fun t280 => (some t280)) else (some false)))) else (some false)) else (some false)) else (some false)) else (some false)) = some true := by rw [if_pos rfl] at H; exact H
              clear H
              have H := H1
              clear H1
              by_cases c22 : t275 = true
              · subst c22
                have H1 : (if t277 = true then (if (wrap64 ((wrap64 (t268 + t270)) + t276)) = 1 then (if ((t276 == 1) == (a1 == a2)) = true then (if t268 = 0 then ((stereopsislaw01_awake.f kj4).bind fun t278 => (some t278)) else (if t272 = 0 then ((stereopsislaw01_awake.f kj4).bind fun t279 => (some t279)) else (if t274 = 1 then ((stereopsislaw01_awake.f kj4).bind fun t280 => (some t280)) else (some false)))) else (some false)) else (some false)) else (some false)) = some true := by rw [if_pos rfl] at H; exact H
                clear H
                have H := H1
                clear H1
                by_cases c23 : t277 = true
                · subst c23
                  have H1 : (if (wrap64 ((wrap64 (t268 + t270)) + t276)) = 1 then (if ((t276 == 1) == (a1 == a2)) = true then (if t268 = 0 then ((stereopsislaw01_awake.f kj4).bind fun t278 => (some t278)) else (if t272 = 0 then ((stereopsislaw01_awake.f kj4).bind fun t279 => (some t279)) else (if t274 = 1 then ((stereopsislaw01_awake.f kj4).bind fun t280 => (some t280)) else (some false)))) else (some false)) else (some false)) = some true := by rw [if_pos rfl] at H; exact H
                  clear H
                  have H := H1
                  clear H1
                  by_cases c24 : (wrap64 ((wrap64 (t268 + t270)) + t276)) = 1
                  · rw [if_pos c24] at H
                    have c24b0 : ((wrap64 ((wrap64 (t268 + t270)) + t276)) == 1) = true := beq_iff_eq.mpr c24
                    have c24b1 : ((wrap64 ((wrap64 (t268 + t270)) + t276)) != 1) = false := bne_eq_false_iff_eq.mpr c24
                    clear c24
                    by_cases c25 : ((t276 == 1) == (a1 == a2)) = true
                    · rw [if_pos c25] at H
                      have c25b0 : ((t276 == 1) == (a1 == a2)) = true := c25
                      (try (have c25b1 : decide ((t276 == 1) = (a1 == a2)) = true := by simpa using c25))
                      (try (have c25b2 : ((t276 == 1) == (a1 == a2)) = true := by simpa using c25))
                      clear c25
                      by_cases c26 : t268 = 0
                      · rw [if_pos c26] at H
                        have c26b0 : (t268 == 0) = true := beq_iff_eq.mpr c26
                        have c26b1 : (t268 != 0) = false := bne_eq_false_iff_eq.mpr c26
                        clear c26
                        replace H := Option.bind_eq_some_iff.mp H
                        obtain ⟨t278, A270, H⟩ := H
                        replace H : (some t278) = some true := H
                        have A27 := Aside0.mk A270
                        clear A270
                        as_aux_lemma =>
                          have HX_ := Aside0.mk (Option.some.inj H)
                          clear H
                          go_wp2_with (first | ((with_reducible refine gate_callee (f := 16) rfl ?_); refine goesL_ (some 40) rfl rfl Try.func16 (by kernel_rfl) rfl #[.int .i64 14, .int .i64 a0, .int .i64 a1, .int .i64 a2] rfl (by (try simp only [List.map_toArray, List.map_cons, List.map_nil]); first | done | rfl | (simp only [List.length_drop, List.length_take]; rfl)) ?_; (with_reducible refine (stereopsislaw01_do.calls kj4 14 a0 a1 a2 t268 true _ A14.out).mono ?_); rintro e w28 ⟨rfl, hb⟩; refine ⟨_, rfl, ?_⟩; have n0_ := Aside0.mk (below_step (by repeat (first | (with_reducible first | exact HB.out | apply below_alloc | apply pw_below_drewN | apply below_drew1) | exact HB.out)) hb); clear HB; have HB := n0_; clear n0_; (try clear hb); (try clear hb2); (try clear hk); (try clear hi)) | ((with_reducible refine gate_callee (f := 16) rfl ?_); refine goesL_ (some 47) rfl rfl Try.func16 (by kernel_rfl) rfl #[.int .i64 14, .int .i64 a0, .int .i64 a2, .int .i64 a1] rfl (by (try simp only [List.map_toArray, List.map_cons, List.map_nil]); first | done | rfl | (simp only [List.length_drop, List.length_take]; rfl)) ?_; (with_reducible refine (stereopsislaw01_do.calls kj4 14 a0 a2 a1 t270 true _ A15.out).mono ?_); rintro e w29 ⟨rfl, hb⟩; refine ⟨_, rfl, ?_⟩; have n0_ := Aside0.mk (below_step (by repeat (first | (with_reducible first | exact HB.out | apply below_alloc | apply pw_below_drewN | apply below_drew1) | exact HB.out)) hb); clear HB; have HB := n0_; clear n0_; (try clear hb); (try clear hb2); (try clear hk); (try clear hi)) | ((with_reducible refine gate_callee (f := 16) rfl ?_); refine goesL_ (some 54) rfl rfl Try.func16 (by kernel_rfl) rfl #[.int .i64 14, .int .i64 a0, .int .i64 a2, .int .i64 a3] rfl (by (try simp only [List.map_toArray, List.map_cons, List.map_nil]); first | done | rfl | (simp only [List.length_drop, List.length_take]; rfl)) ?_; (with_reducible refine (stereopsislaw01_do.calls kj4 14 a0 a2 a3 t272 true _ A16.out).mono ?_); rintro e w30 ⟨rfl, hb⟩; refine ⟨_, rfl, ?_⟩; have n0_ := Aside0.mk (below_step (by repeat (first | (with_reducible first | exact HB.out | apply below_alloc | apply pw_below_drewN | apply below_drew1) | exact HB.out)) hb); clear HB; have HB := n0_; clear n0_; (try clear hb); (try clear hb2); (try clear hk); (try clear hi)) | ((with_reducible refine gate_callee (f := 16) rfl ?_); refine goesL_ (some 61) rfl rfl Try.func16 (by kernel_rfl) rfl #[.int .i64 14, .int .i64 a0, .int .i64 a1, .int .i64 a3] rfl (by (try simp only [List.map_toArray, List.map_cons, List.map_nil]); first | done | rfl | (simp only [List.length_drop, List.length_take]; rfl)) ?_; (with_reducible refine (stereopsislaw01_do.calls kj4 14 a0 a1 a3 t274 true _ A17.out).mono ?_); rintro e w31 ⟨rfl, hb⟩; refine ⟨_, rfl, ?_⟩; have n0_ := Aside0.mk (below_step (by repeat (first | (with_reducible first | exact HB.out | apply below_alloc | apply pw_below_drewN | apply below_drew1) | exact HB.out)) hb); clear HB; have HB := n0_; clear n0_; (try clear hb); (try clear hb2); (try clear hk); (try clear hi)) | ((with_reducible refine gate_callee (f := 16) rfl ?_); refine goesL_ (some 68) rfl rfl Try.func16 (by kernel_rfl) rfl #[.int .i64 13, .int .i64 a0, .int .i64 a1, .int .i64 a2] rfl (by (try simp only [List.map_toArray, List.map_cons, List.map_nil]); first | done | rfl | (simp only [List.length_drop, List.length_take]; rfl)) ?_; (with_reducible refine (stereopsislaw01_do.calls kj4 13 a0 a1 a2 t276 true _ A18.out).mono ?_); rintro e w32 ⟨rfl, hb⟩; refine ⟨_, rfl, ?_⟩; have n0_ := Aside0.mk (below_step (by repeat (first | (with_reducible first | exact HB.out | apply below_alloc | apply pw_below_drewN | apply below_drew1) | exact HB.out)) hb); clear HB; have HB := n0_; clear n0_; (try clear hb); (try clear hb2); (try clear hk); (try clear hi)) | (go_at_call 14; (with_reducible refine (stereopsislaw01_awake.calls kj4  t278 _ A27.out).mono ?_); rintro e w33 ⟨rfl, hb⟩; have n0_ := Aside0.mk (below_step (by repeat (first | (with_reducible first | exact HB.out | apply below_alloc | apply pw_below_drewN | apply below_drew1) | exact HB.out)) hb); clear HB; have HB := n0_; clear n0_; (try clear hb); (try clear hb2); (try clear hk); (try clear hi)))
                          go_ret
                          exact ⟨by first | (rw [HX_.out]; done) | (simp [HX_.out]; done) | rfl | (simp [errW_none, errW_some] <;> rfl) | (simp [*, errW_none, errW_some] <;> rfl), by repeat (first | (with_reducible first | exact HB.out | apply below_alloc | apply pw_below_drewN | apply below_drew1) | exact HB.out)⟩
                      · rw [if_neg c26] at H
                        have c26b0 : (t268 == 0) = false := beq_eq_false_iff_ne.mpr c26
                        have c26b1 : (t268 != 0) = true := bne_iff_ne.mpr c26
                        by_cases c34 : t272 = 0
                        · rw [if_pos c34] at H
                          have c34b0 : (t272 == 0) = true := beq_iff_eq.mpr c34
                          have c34b1 : (t272 != 0) = false := bne_eq_false_iff_eq.mpr c34
                          clear c34
                          replace H := Option.bind_eq_some_iff.mp H
                          obtain ⟨t279, A350, H⟩ := H
                          replace H : (some t279) = some true := H
                          have A35 := Aside0.mk A350
                          clear A350
                          as_aux_lemma =>
                            have HX_ := Aside0.mk (Option.some.inj H)
                            clear H
                            go_wp2_with (first | ((with_reducible refine gate_callee (f := 16) rfl ?_); refine goesL_ (some 40) rfl rfl Try.func16 (by kernel_rfl) rfl #[.int .i64 14, .int .i64 a0, .int .i64 a1, .int .i64 a2] rfl (by (try simp only [List.map_toArray, List.map_cons, List.map_nil]); first | done | rfl | (simp only [List.length_drop, List.length_take]; rfl)) ?_; (with_reducible refine (stereopsislaw01_do.calls kj4 14 a0 a1 a2 t268 true _ A14.out).mono ?_); rintro e w36 ⟨rfl, hb⟩; refine ⟨_, rfl, ?_⟩; have n0_ := Aside0.mk (below_step (by repeat (first | (with_reducible first | exact HB.out | apply below_alloc | apply pw_below_drewN | apply below_drew1) | exact HB.out)) hb); clear HB; have HB := n0_; clear n0_; (try clear hb); (try clear hb2); (try clear hk); (try clear hi)) | ((with_reducible refine gate_callee (f := 16) rfl ?_); refine goesL_ (some 47) rfl rfl Try.func16 (by kernel_rfl) rfl #[.int .i64 14, .int .i64 a0, .int .i64 a2, .int .i64 a1] rfl (by (try simp only [List.map_toArray, List.map_cons, List.map_nil]); first | done | rfl | (simp only [List.length_drop, List.length_take]; rfl)) ?_; (with_reducible refine (stereopsislaw01_do.calls kj4 14 a0 a2 a1 t270 true _ A15.out).mono ?_); rintro e w37 ⟨rfl, hb⟩; refine ⟨_, rfl, ?_⟩; have n0_ := Aside0.mk (below_step (by repeat (first | (with_reducible first | exact HB.out | apply below_alloc | apply pw_below_drewN | apply below_drew1) | exact HB.out)) hb); clear HB; have HB := n0_; clear n0_; (try clear hb); (try clear hb2); (try clear hk); (try clear hi)) | ((with_reducible refine gate_callee (f := 16) rfl ?_); refine goesL_ (some 54) rfl rfl Try.func16 (by kernel_rfl) rfl #[.int .i64 14, .int .i64 a0, .int .i64 a2, .int .i64 a3] rfl (by (try simp only [List.map_toArray, List.map_cons, List.map_nil]); first | done | rfl | (simp only [List.length_drop, List.length_take]; rfl)) ?_; (with_reducible refine (stereopsislaw01_do.calls kj4 14 a0 a2 a3 t272 true _ A16.out).mono ?_); rintro e w38 ⟨rfl, hb⟩; refine ⟨_, rfl, ?_⟩; have n0_ := Aside0.mk (below_step (by repeat (first | (with_reducible first | exact HB.out | apply below_alloc | apply pw_below_drewN | apply below_drew1) | exact HB.out)) hb); clear HB; have HB := n0_; clear n0_; (try clear hb); (try clear hb2); (try clear hk); (try clear hi)) | ((with_reducible refine gate_callee (f := 16) rfl ?_); refine goesL_ (some 61) rfl rfl Try.func16 (by kernel_rfl) rfl #[.int .i64 14, .int .i64 a0, .int .i64 a1, .int .i64 a3] rfl (by (try simp only [List.map_toArray, List.map_cons, List.map_nil]); first | done | rfl | (simp only [List.length_drop, List.length_take]; rfl)) ?_; (with_reducible refine (stereopsislaw01_do.calls kj4 14 a0 a1 a3 t274 true _ A17.out).mono ?_); rintro e w39 ⟨rfl, hb⟩; refine ⟨_, rfl, ?_⟩; have n0_ := Aside0.mk (below_step (by repeat (first | (with_reducible first | exact HB.out | apply below_alloc | apply pw_below_drewN | apply below_drew1) | exact HB.out)) hb); clear HB; have HB := n0_; clear n0_; (try clear hb); (try clear hb2); (try clear hk); (try clear hi)) | ((with_reducible refine gate_callee (f := 16) rfl ?_); refine goesL_ (some 68) rfl rfl Try.func16 (by kernel_rfl) rfl #[.int .i64 13, .int .i64 a0, .int .i64 a1, .int .i64 a2] rfl (by (try simp only [List.map_toArray, List.map_cons, List.map_nil]); first | done | rfl | (simp only [List.length_drop, List.length_take]; rfl)) ?_; (with_reducible refine (stereopsislaw01_do.calls kj4 13 a0 a1 a2 t276 true _ A18.out).mono ?_); rintro e w40 ⟨rfl, hb⟩; refine ⟨_, rfl, ?_⟩; have n0_ := Aside0.mk (below_step (by repeat (first | (with_reducible first | exact HB.out | apply below_alloc | apply pw_below_drewN | apply below_drew1) | exact HB.out)) hb); clear HB; have HB := n0_; clear n0_; (try clear hb); (try clear hb2); (try clear hk); (try clear hi)) | (go_at_call 14; (with_reducible refine (stereopsislaw01_awake.calls kj4  t279 _ A35.out).mono ?_); rintro e w41 ⟨rfl, hb⟩; have n0_ := Aside0.mk (below_step (by repeat (first | (with_reducible first | exact HB.out | apply below_alloc | apply pw_below_drewN | apply below_drew1) | exact HB.out)) hb); clear HB; have HB := n0_; clear n0_; (try clear hb); (try clear hb2); (try clear hk); (try clear hi)))
                            go_ret
                            exact ⟨by first | (rw [HX_.out]; done) | (simp [HX_.out]; done) | rfl | (simp [errW_none, errW_some] <;> rfl) | (simp [*, errW_none, errW_some] <;> rfl), by repeat (first | (with_reducible first | exact HB.out | apply below_alloc | apply pw_below_drewN | apply below_drew1) | exact HB.out)⟩
                        · rw [if_neg c34] at H
                          have c34b0 : (t272 == 0) = false := beq_eq_false_iff_ne.mpr c34
                          have c34b1 : (t272 != 0) = true := bne_iff_ne.mpr c34
                          by_cases c42 : t274 = 1
                          · rw [if_pos c42] at H
                            have c42b0 : (t274 == 1) = true := beq_iff_eq.mpr c42
                            have c42b1 : (t274 != 1) = false := bne_eq_false_iff_eq.mpr c42
                            clear c42
                            replace H := Option.bind_eq_some_iff.mp H
                            obtain ⟨t280, A430, H⟩ := H
                            replace H : (some t280) = some true := H
                            have A43 := Aside0.mk A430
                            clear A430
                            as_aux_lemma =>
                              have HX_ := Aside0.mk (Option.some.inj H)
                              clear H
                              go_wp2_with (first | ((with_reducible refine gate_callee (f := 16) rfl ?_); refine goesL_ (some 40) rfl rfl Try.func16 (by kernel_rfl) rfl #[.int .i64 14, .int .i64 a0, .int .i64 a1, .int .i64 a2] rfl (by (try simp only [List.map_toArray, List.map_cons, List.map_nil]); first | done | rfl | (simp only [List.length_drop, List.length_take]; rfl)) ?_; (with_reducible refine (stereopsislaw01_do.calls kj4 14 a0 a1 a2 t268 true _ A14.out).mono ?_); rintro e w44 ⟨rfl, hb⟩; refine ⟨_, rfl, ?_⟩; have n0_ := Aside0.mk (below_step (by repeat (first | (with_reducible first | exact HB.out | apply below_alloc | apply pw_below_drewN | apply below_drew1) | exact HB.out)) hb); clear HB; have HB := n0_; clear n0_; (try clear hb); (try clear hb2); (try clear hk); (try clear hi)) | ((with_reducible refine gate_callee (f := 16) rfl ?_); refine goesL_ (some 47) rfl rfl Try.func16 (by kernel_rfl) rfl #[.int .i64 14, .int .i64 a0, .int .i64 a2, .int .i64 a1] rfl (by (try simp only [List.map_toArray, List.map_cons, List.map_nil]); first | done | rfl | (simp only [List.length_drop, List.length_take]; rfl)) ?_; (with_reducible refine (stereopsislaw01_do.calls kj4 14 a0 a2 a1 t270 true _ A15.out).mono ?_); rintro e w45 ⟨rfl, hb⟩; refine ⟨_, rfl, ?_⟩; have n0_ := Aside0.mk (below_step (by repeat (first | (with_reducible first | exact HB.out | apply below_alloc | apply pw_below_drewN | apply below_drew1) | exact HB.out)) hb); clear HB; have HB := n0_; clear n0_; (try clear hb); (try clear hb2); (try clear hk); (try clear hi)) | ((with_reducible refine gate_callee (f := 16) rfl ?_); refine goesL_ (some 54) rfl rfl Try.func16 (by kernel_rfl) rfl #[.int .i64 14, .int .i64 a0, .int .i64 a2, .int .i64 a3] rfl (by (try simp only [List.map_toArray, List.map_cons, List.map_nil]); first | done | rfl | (simp only [List.length_drop, List.length_take]; rfl)) ?_; (with_reducible refine (stereopsislaw01_do.calls kj4 14 a0 a2 a3 t272 true _ A16.out).mono ?_); rintro e w46 ⟨rfl, hb⟩; refine ⟨_, rfl, ?_⟩; have n0_ := Aside0.mk (below_step (by repeat (first | (with_reducible first | exact HB.out | apply below_alloc | apply pw_below_drewN | apply below_drew1) | exact HB.out)) hb); clear HB; have HB := n0_; clear n0_; (try clear hb); (try clear hb2); (try clear hk); (try clear hi)) | ((with_reducible refine gate_callee (f := 16) rfl ?_); refine goesL_ (some 61) rfl rfl Try.func16 (by kernel_rfl) rfl #[.int .i64 14, .int .i64 a0, .int .i64 a1, .int .i64 a3] rfl (by (try simp only [List.map_toArray, List.map_cons, List.map_nil]); first | done | rfl | (simp only [List.length_drop, List.length_take]; rfl)) ?_; (with_reducible refine (stereopsislaw01_do.calls kj4 14 a0 a1 a3 t274 true _ A17.out).mono ?_); rintro e w47 ⟨rfl, hb⟩; refine ⟨_, rfl, ?_⟩; have n0_ := Aside0.mk (below_step (by repeat (first | (with_reducible first | exact HB.out | apply below_alloc | apply pw_below_drewN | apply below_drew1) | exact HB.out)) hb); clear HB; have HB := n0_; clear n0_; (try clear hb); (try clear hb2); (try clear hk); (try clear hi)) | ((with_reducible refine gate_callee (f := 16) rfl ?_); refine goesL_ (some 68) rfl rfl Try.func16 (by kernel_rfl) rfl #[.int .i64 13, .int .i64 a0, .int .i64 a1, .int .i64 a2] rfl (by (try simp only [List.map_toArray, List.map_cons, List.map_nil]); first | done | rfl | (simp only [List.length_drop, List.length_take]; rfl)) ?_; (with_reducible refine (stereopsislaw01_do.calls kj4 13 a0 a1 a2 t276 true _ A18.out).mono ?_); rintro e w48 ⟨rfl, hb⟩; refine ⟨_, rfl, ?_⟩; have n0_ := Aside0.mk (below_step (by repeat (first | (with_reducible first | exact HB.out | apply below_alloc | apply pw_below_drewN | apply below_drew1) | exact HB.out)) hb); clear HB; have HB := n0_; clear n0_; (try clear hb); (try clear hb2); (try clear hk); (try clear hi)) | (go_at_call 14; (with_reducible refine (stereopsislaw01_awake.calls kj4  t280 _ A43.out).mono ?_); rintro e w49 ⟨rfl, hb⟩; have n0_ := Aside0.mk (below_step (by repeat (first | (with_reducible first | exact HB.out | apply below_alloc | apply pw_below_drewN | apply below_drew1) | exact HB.out)) hb); clear HB; have HB := n0_; clear n0_; (try clear hb); (try clear hb2); (try clear hk); (try clear hi)))
                              go_ret
                              exact ⟨by first | (rw [HX_.out]; done) | (simp [HX_.out]; done) | rfl | (simp [errW_none, errW_some] <;> rfl) | (simp [*, errW_none, errW_some] <;> rfl), by repeat (first | (with_reducible first | exact HB.out | apply below_alloc | apply pw_below_drewN | apply below_drew1) | exact HB.out)⟩
                          · rw [if_neg c42] at H
                            have c42b0 : (t274 == 1) = false := beq_eq_false_iff_ne.mpr c42
                            have c42b1 : (t274 != 1) = true := bne_iff_ne.mpr c42
                            as_aux_lemma =>
                              exact absurd H (by simp)
                    · rw [if_neg c25] at H
                      have c25b0 : ((t276 == 1) == (a1 == a2)) = false := by simpa using c25
                      (try (have c25b1 : decide ((t276 == 1) = (a1 == a2)) = false := by simpa using c25))
                      (try (have c25b2 : ((t276 == 1) == (a1 == a2)) = false := by simpa using c25))
                      (try (have c25b3 : ¬ ((t276 == 1) = (a1 == a2)) := by simpa using c25))
                      clear c25
                      as_aux_lemma =>
                        exact absurd H (by simp)
                  · rw [if_neg c24] at H
                    have c24b0 : ((wrap64 ((wrap64 (t268 + t270)) + t276)) == 1) = false := beq_eq_false_iff_ne.mpr c24
                    have c24b1 : ((wrap64 ((wrap64 (t268 + t270)) + t276)) != 1) = true := bne_iff_ne.mpr c24
                    as_aux_lemma =>
                      exact absurd H (by simp)
                · replace c23 := Bool.eq_false_iff.mpr c23
                  subst c23
                  have H1 : (some false) = some true := by rw [if_neg (show ¬ (false = true) by decide)] at H; exact H
                  clear H
                  have H := H1
                  clear H1
                  as_aux_lemma =>
                    exact absurd H (by simp)
              · replace c22 := Bool.eq_false_iff.mpr c22
                subst c22
                have H1 : (some false) = some true := by rw [if_neg (show ¬ (false = true) by decide)] at H; exact H
                clear H
                have H := H1
                clear H1
                as_aux_lemma =>
                  exact absurd H (by simp)
            · replace c21 := Bool.eq_false_iff.mpr c21
              subst c21
              have H1 : (some false) = some true := by rw [if_neg (show ¬ (false = true) by decide)] at H; exact H
              clear H
              have H := H1
              clear H1
              as_aux_lemma =>
                exact absurd H (by simp)
          · replace c20 := Bool.eq_false_iff.mpr c20
            subst c20
            have H1 : (some false) = some true := by rw [if_neg (show ¬ (false = true) by decide)] at H; exact H
            clear H
            have H := H1
            clear H1
            as_aux_lemma =>
              exact absurd H (by simp)
        · replace c19 := Bool.eq_false_iff.mpr c19
          subst c19
          have H1 : (some false) = some true := by rw [if_neg (show ¬ (false = true) by decide)] at H; exact H
          clear H
          have H := H1
          clear H1
          as_aux_lemma =>
            exact absurd H (by simp)

/-- THE ONE PURE STATEMENT of stereopsislaw01_WordOrder: yours. -/
def stereopsislaw01_WordOrder.Pure : Prop := ∀ (a0 : Int) (a1 : Int) (a2 : Int) (a3 : Int), (Lit.int .i64 a0).wf = true → (Lit.int .i64 a1).wf = true → (Lit.int .i64 a2).wf = true → (Lit.int .i64 a3).wf = true → ∃ k, stereopsislaw01_WordOrder.f k a0 a1 a2 a3 = some true
theorem stereopsislaw01_WordOrder.walk (P : stereopsislaw01_WordOrder.Pure) (a0 : Int) (a1 : Int) (a2 : Int) (a3 : Int) (w : World) (w0 : (Lit.int .i64 a0).wf = true) (w1 : (Lit.int .i64 a1).wf = true) (w2 : (Lit.int .i64 a2).wf = true) (w3 : (Lit.int .i64 a3).wf = true) :
    Calls Try.prog 6 #[.int .i64 a0, .int .i64 a1, .int .i64 a2, .int .i64 a3] w fun e w' => e = .returned (.bool true) ∧ Below w.heap.size w w' := by
  obtain ⟨k, h⟩ := P a0 a1 a2 a3 w0 w1 w2 w3
  refine (stereopsislaw01_WordOrder.calls k a0 a1 a2 a3 w h).mono ?_
  rintro e w' ⟨rfl, hd⟩
  exact ⟨rfl, hd⟩

end Go.Proofs.Ytcbglmdnfipgnaa.P
